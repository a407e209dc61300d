/-
  No cell of these rows narrows 'for every input' (looked for: loops, veiled, ifaces, maps, wideKeys, modest, calm, conditions, laid).
  DERIVED. THE GIVEN ROWS OF THIS SEAT. 9 by the template 'for every input the law returns true; each argument reads behind the call as it read before'; 0 by the template 'total and deterministic' (their statements: YtchahbdmdcllaaaTotals.lean).
  GIVEN WITH THE SEED: the statements are not yours to turn. If you find one false, say at which input.
  Laid BY PROGRAM, IN A SANDBOX (cutbox-rows.mjs): the forced cells as the released guide's own fill.sh prints them over the translation 64d37c3c839730c0… (all of the seat's roots in one cut). By AI agents, Wed Nov 11 2026. No macro, syntax, notation, axiom, sorry.
-/
import Derived.Test.YtchahbdmdcllaaaChecked
import GoSem.Claim
import GoSem.ClaimJoined
import GoSem.ClaimMapViews
import Derived.JoinedTies
import Derived.KernelRfl
namespace Go.Proofs.Ytchahbdmdcllaaa
/- THE CELL 'sum', in the pinned program and in every row, IS THE sha256 OF THE DUMP (.gsa) THAT YtchahbdmdcllaaaProg.lean LOADS. Nothing in Lean hashes anything: it is a label: what it is worth is what the hold of that sum in a sandbox is worth. -/
noncomputable def Try.pinned : Pinned := { name := "ytchahbdmdcllaaa", sum := "64d37c3c839730c0d5b7d5697fdc56dc9b64ff21ddfe8f714b4588db20a4e591", checked := Try.checked }
namespace Rows
def none {H : Type} : Left H := { results := [], args := [] }

/-- 'laws.FnExactReadImage': WHATEVER THE INPUT: true; the input reads as it did. -/
def fnExactReadImageSpec : ChangeSpec := { name := "fnExactReadImage", fn := fun _ => fun
  | [d] => { results := [.lit (.bool true)], args := [d] }
  | _ => none }
def fnExactReadImageRow : OpenClaim := { program := "ytchahbdmdcllaaa", sum := "64d37c3c839730c0d5b7d5697fdc56dc9b64ff21ddfe8f714b4588db20a4e591", func := "loop.example/pixelworks/laws.FnExactReadImage", spec := "fnExactReadImage", unfollowed := true, recurses := true, apart := false }
def FnExactReadImageSaid : Prop := fnExactReadImageRow.holds Try.pinned (OpenSpec.ofChange fnExactReadImageSpec)

/-- ITS FALSE NEIGHBOUR: 'it returns false'. Refute it at one input. -/
def fnExactReadImageWrong : ChangeSpec := { name := "fnExactReadImage", fn := fun _ => fun
  | [d] => { results := [.lit (.bool false)], args := [d] }
  | _ => none }
def FnExactReadImageWrongFalsely : Prop := fnExactReadImageRow.holds Try.pinned (OpenSpec.ofChange fnExactReadImageWrong)

/-- 'laws.FnReadImage': WHATEVER THE INPUT: true; the input reads as it did. -/
def fnReadImageSpec : ChangeSpec := { name := "fnReadImage", fn := fun _ => fun
  | [d] => { results := [.lit (.bool true)], args := [d] }
  | _ => none }
def fnReadImageRow : OpenClaim := { program := "ytchahbdmdcllaaa", sum := "64d37c3c839730c0d5b7d5697fdc56dc9b64ff21ddfe8f714b4588db20a4e591", func := "loop.example/pixelworks/laws.FnReadImage", spec := "fnReadImage", unfollowed := true, recurses := true, apart := false }
def FnReadImageSaid : Prop := fnReadImageRow.holds Try.pinned (OpenSpec.ofChange fnReadImageSpec)

/-- ITS FALSE NEIGHBOUR: 'it returns false'. Refute it at one input. -/
def fnReadImageWrong : ChangeSpec := { name := "fnReadImage", fn := fun _ => fun
  | [d] => { results := [.lit (.bool false)], args := [d] }
  | _ => none }
def FnReadImageWrongFalsely : Prop := fnReadImageRow.holds Try.pinned (OpenSpec.ofChange fnReadImageWrong)

/-- 'laws.FnReadImageDamage': WHATEVER THE INPUT: true; the input reads as it did. -/
def fnReadImageDamageSpec : ChangeSpec := { name := "fnReadImageDamage", fn := fun _ => fun
  | [d] => { results := [.lit (.bool true)], args := [d] }
  | _ => none }
def fnReadImageDamageRow : OpenClaim := { program := "ytchahbdmdcllaaa", sum := "64d37c3c839730c0d5b7d5697fdc56dc9b64ff21ddfe8f714b4588db20a4e591", func := "loop.example/pixelworks/laws.FnReadImageDamage", spec := "fnReadImageDamage", unfollowed := true, recurses := true, apart := false }
def FnReadImageDamageSaid : Prop := fnReadImageDamageRow.holds Try.pinned (OpenSpec.ofChange fnReadImageDamageSpec)

/-- ITS FALSE NEIGHBOUR: 'it returns false'. Refute it at one input. -/
def fnReadImageDamageWrong : ChangeSpec := { name := "fnReadImageDamage", fn := fun _ => fun
  | [d] => { results := [.lit (.bool false)], args := [d] }
  | _ => none }
def FnReadImageDamageWrongFalsely : Prop := fnReadImageDamageRow.holds Try.pinned (OpenSpec.ofChange fnReadImageDamageWrong)

/-- 'laws.FnExactFilterImage': WHATEVER THE INPUT: true; the input reads as it did. -/
def fnExactFilterImageSpec : ChangeSpec := { name := "fnExactFilterImage", fn := fun _ => fun
  | [d] => { results := [.lit (.bool true)], args := [d] }
  | _ => none }
def fnExactFilterImageRow : OpenClaim := { program := "ytchahbdmdcllaaa", sum := "64d37c3c839730c0d5b7d5697fdc56dc9b64ff21ddfe8f714b4588db20a4e591", func := "loop.example/pixelworks/laws.FnExactFilterImage", spec := "fnExactFilterImage", unfollowed := true, recurses := true, apart := false }
def FnExactFilterImageSaid : Prop := fnExactFilterImageRow.holds Try.pinned (OpenSpec.ofChange fnExactFilterImageSpec)

/-- ITS FALSE NEIGHBOUR: 'it returns false'. Refute it at one input. -/
def fnExactFilterImageWrong : ChangeSpec := { name := "fnExactFilterImage", fn := fun _ => fun
  | [d] => { results := [.lit (.bool false)], args := [d] }
  | _ => none }
def FnExactFilterImageWrongFalsely : Prop := fnExactFilterImageRow.holds Try.pinned (OpenSpec.ofChange fnExactFilterImageWrong)

/-- 'laws.FnFilterImage': WHATEVER THE INPUT: true; the input reads as it did. -/
def fnFilterImageSpec : ChangeSpec := { name := "fnFilterImage", fn := fun _ => fun
  | [d] => { results := [.lit (.bool true)], args := [d] }
  | _ => none }
def fnFilterImageRow : OpenClaim := { program := "ytchahbdmdcllaaa", sum := "64d37c3c839730c0d5b7d5697fdc56dc9b64ff21ddfe8f714b4588db20a4e591", func := "loop.example/pixelworks/laws.FnFilterImage", spec := "fnFilterImage", unfollowed := true, recurses := true, apart := false }
def FnFilterImageSaid : Prop := fnFilterImageRow.holds Try.pinned (OpenSpec.ofChange fnFilterImageSpec)

/-- ITS FALSE NEIGHBOUR: 'it returns false'. Refute it at one input. -/
def fnFilterImageWrong : ChangeSpec := { name := "fnFilterImage", fn := fun _ => fun
  | [d] => { results := [.lit (.bool false)], args := [d] }
  | _ => none }
def FnFilterImageWrongFalsely : Prop := fnFilterImageRow.holds Try.pinned (OpenSpec.ofChange fnFilterImageWrong)

/-- 'laws.FnExactUnfilterImage': WHATEVER THE INPUT: true; the input reads as it did. -/
def fnExactUnfilterImageSpec : ChangeSpec := { name := "fnExactUnfilterImage", fn := fun _ => fun
  | [d1, d2, d3, d4] => { results := [.lit (.bool true)], args := [d1, d2, d3, d4] }
  | _ => none }
def fnExactUnfilterImageRow : OpenClaim := { program := "ytchahbdmdcllaaa", sum := "64d37c3c839730c0d5b7d5697fdc56dc9b64ff21ddfe8f714b4588db20a4e591", func := "loop.example/pixelworks/laws.FnExactUnfilterImage", spec := "fnExactUnfilterImage", unfollowed := true, recurses := true, apart := false }
def FnExactUnfilterImageSaid : Prop := fnExactUnfilterImageRow.holds Try.pinned (OpenSpec.ofChange fnExactUnfilterImageSpec)

/-- ITS FALSE NEIGHBOUR: 'it returns false'. Refute it at one input. -/
def fnExactUnfilterImageWrong : ChangeSpec := { name := "fnExactUnfilterImage", fn := fun _ => fun
  | [d1, d2, d3, d4] => { results := [.lit (.bool false)], args := [d1, d2, d3, d4] }
  | _ => none }
def FnExactUnfilterImageWrongFalsely : Prop := fnExactUnfilterImageRow.holds Try.pinned (OpenSpec.ofChange fnExactUnfilterImageWrong)

/-- 'laws.FnUnfilterImage': WHATEVER THE INPUT: true; the input reads as it did. -/
def fnUnfilterImageSpec : ChangeSpec := { name := "fnUnfilterImage", fn := fun _ => fun
  | [d] => { results := [.lit (.bool true)], args := [d] }
  | _ => none }
def fnUnfilterImageRow : OpenClaim := { program := "ytchahbdmdcllaaa", sum := "64d37c3c839730c0d5b7d5697fdc56dc9b64ff21ddfe8f714b4588db20a4e591", func := "loop.example/pixelworks/laws.FnUnfilterImage", spec := "fnUnfilterImage", unfollowed := true, recurses := true, apart := false }
def FnUnfilterImageSaid : Prop := fnUnfilterImageRow.holds Try.pinned (OpenSpec.ofChange fnUnfilterImageSpec)

/-- ITS FALSE NEIGHBOUR: 'it returns false'. Refute it at one input. -/
def fnUnfilterImageWrong : ChangeSpec := { name := "fnUnfilterImage", fn := fun _ => fun
  | [d] => { results := [.lit (.bool false)], args := [d] }
  | _ => none }
def FnUnfilterImageWrongFalsely : Prop := fnUnfilterImageRow.holds Try.pinned (OpenSpec.ofChange fnUnfilterImageWrong)

/-- 'laws.FnExactWriteImage': WHATEVER THE INPUT: true; the input reads as it did. -/
def fnExactWriteImageSpec : ChangeSpec := { name := "fnExactWriteImage", fn := fun _ => fun
  | [d] => { results := [.lit (.bool true)], args := [d] }
  | _ => none }
def fnExactWriteImageRow : OpenClaim := { program := "ytchahbdmdcllaaa", sum := "64d37c3c839730c0d5b7d5697fdc56dc9b64ff21ddfe8f714b4588db20a4e591", func := "loop.example/pixelworks/laws.FnExactWriteImage", spec := "fnExactWriteImage", unfollowed := true, recurses := true, apart := false }
def FnExactWriteImageSaid : Prop := fnExactWriteImageRow.holds Try.pinned (OpenSpec.ofChange fnExactWriteImageSpec)

/-- ITS FALSE NEIGHBOUR: 'it returns false'. Refute it at one input. -/
def fnExactWriteImageWrong : ChangeSpec := { name := "fnExactWriteImage", fn := fun _ => fun
  | [d] => { results := [.lit (.bool false)], args := [d] }
  | _ => none }
def FnExactWriteImageWrongFalsely : Prop := fnExactWriteImageRow.holds Try.pinned (OpenSpec.ofChange fnExactWriteImageWrong)

/-- 'laws.FnWriteImage': WHATEVER THE INPUT: true; the input reads as it did. -/
def fnWriteImageSpec : ChangeSpec := { name := "fnWriteImage", fn := fun _ => fun
  | [d] => { results := [.lit (.bool true)], args := [d] }
  | _ => none }
def fnWriteImageRow : OpenClaim := { program := "ytchahbdmdcllaaa", sum := "64d37c3c839730c0d5b7d5697fdc56dc9b64ff21ddfe8f714b4588db20a4e591", func := "loop.example/pixelworks/laws.FnWriteImage", spec := "fnWriteImage", unfollowed := true, recurses := true, apart := false }
def FnWriteImageSaid : Prop := fnWriteImageRow.holds Try.pinned (OpenSpec.ofChange fnWriteImageSpec)

/-- ITS FALSE NEIGHBOUR: 'it returns false'. Refute it at one input. -/
def fnWriteImageWrong : ChangeSpec := { name := "fnWriteImage", fn := fun _ => fun
  | [d] => { results := [.lit (.bool false)], args := [d] }
  | _ => none }
def FnWriteImageWrongFalsely : Prop := fnWriteImageRow.holds Try.pinned (OpenSpec.ofChange fnWriteImageWrong)

/- THE SECOND FORM. 'bulk': how many values and letters a reading holds, each counted each time it is reached (what is shared counts as often as it is met; a slice's spare places count too). A statement '..UptoSaid' is the law's where the arguments, and the package variables that the reading takes, are together of bulk at most 1048576: NARROWER than '..Said'. Prove '..Said' where nothing that the law and all that it calls make is longer than what came in: it says more and counts as full. Else prove '..UptoSaid'. A law counts once. -/
mutual
def uptoBulk {H : Type} : DataW H → Nat
  | .lit (.string bytes) => bytes.length + 1
  | .lit _ => 1
  | .nil => 1
  | .ptr d => uptoBulk d + 1
  | .slice elems spare => uptoBulkAll elems + uptoBulkAll spare + 1
  | .agg parts => uptoBulkAll parts + 1
  | .iface _ d => uptoBulk d + 1
  | .map entries => uptoBulkEntries entries + 1
  | .held _ => 1
def uptoBulkAll {H : Type} : List (DataW H) → Nat
  | [] => 0
  | d :: r => uptoBulk d + uptoBulkAll r
def uptoBulkEntries {H : Type} : List (Lit × DataW H) → Nat
  | [] => 0
  | x :: r => uptoBulkEntry x + uptoBulkEntries r
def uptoBulkEntry {H : Type} : Lit × DataW H → Nat
  | (.string bytes, d) => bytes.length + uptoBulk d + 1
  | (_, d) => uptoBulk d + 1
 end
def uptoSmall : (H : Type) → List (DataW H) → Bool := fun _ ds => decide (uptoBulkAll ds ≤ 1048576)
def OpenSpec.upto (s : _root_.Go.ChangeSpec) : _root_.Go.OpenSpec := { _root_.Go.OpenSpec.ofChange s with cond := some uptoSmall }

/-- 'laws.FnExactReadImage', WHERE WHAT IT READS IS OF BULK AT MOST 1048576: true; the input reads as it did. -/
def fnExactReadImageUptoRow : OpenClaim := { program := "ytchahbdmdcllaaa", sum := "64d37c3c839730c0d5b7d5697fdc56dc9b64ff21ddfe8f714b4588db20a4e591", func := "loop.example/pixelworks/laws.FnExactReadImage", spec := "fnExactReadImage", unfollowed := true, recurses := true, apart := false, narrowed := true }
def FnExactReadImageUptoSaid : Prop := fnExactReadImageUptoRow.holds Try.pinned (OpenSpec.upto fnExactReadImageSpec)

/-- 'laws.FnReadImage', WHERE WHAT IT READS IS OF BULK AT MOST 1048576: true; the input reads as it did. -/
def fnReadImageUptoRow : OpenClaim := { program := "ytchahbdmdcllaaa", sum := "64d37c3c839730c0d5b7d5697fdc56dc9b64ff21ddfe8f714b4588db20a4e591", func := "loop.example/pixelworks/laws.FnReadImage", spec := "fnReadImage", unfollowed := true, recurses := true, apart := false, narrowed := true }
def FnReadImageUptoSaid : Prop := fnReadImageUptoRow.holds Try.pinned (OpenSpec.upto fnReadImageSpec)

/-- 'laws.FnReadImageDamage', WHERE WHAT IT READS IS OF BULK AT MOST 1048576: true; the input reads as it did. -/
def fnReadImageDamageUptoRow : OpenClaim := { program := "ytchahbdmdcllaaa", sum := "64d37c3c839730c0d5b7d5697fdc56dc9b64ff21ddfe8f714b4588db20a4e591", func := "loop.example/pixelworks/laws.FnReadImageDamage", spec := "fnReadImageDamage", unfollowed := true, recurses := true, apart := false, narrowed := true }
def FnReadImageDamageUptoSaid : Prop := fnReadImageDamageUptoRow.holds Try.pinned (OpenSpec.upto fnReadImageDamageSpec)

/-- 'laws.FnExactFilterImage', WHERE WHAT IT READS IS OF BULK AT MOST 1048576: true; the input reads as it did. -/
def fnExactFilterImageUptoRow : OpenClaim := { program := "ytchahbdmdcllaaa", sum := "64d37c3c839730c0d5b7d5697fdc56dc9b64ff21ddfe8f714b4588db20a4e591", func := "loop.example/pixelworks/laws.FnExactFilterImage", spec := "fnExactFilterImage", unfollowed := true, recurses := true, apart := false, narrowed := true }
def FnExactFilterImageUptoSaid : Prop := fnExactFilterImageUptoRow.holds Try.pinned (OpenSpec.upto fnExactFilterImageSpec)

/-- 'laws.FnFilterImage', WHERE WHAT IT READS IS OF BULK AT MOST 1048576: true; the input reads as it did. -/
def fnFilterImageUptoRow : OpenClaim := { program := "ytchahbdmdcllaaa", sum := "64d37c3c839730c0d5b7d5697fdc56dc9b64ff21ddfe8f714b4588db20a4e591", func := "loop.example/pixelworks/laws.FnFilterImage", spec := "fnFilterImage", unfollowed := true, recurses := true, apart := false, narrowed := true }
def FnFilterImageUptoSaid : Prop := fnFilterImageUptoRow.holds Try.pinned (OpenSpec.upto fnFilterImageSpec)

/-- 'laws.FnExactUnfilterImage', WHERE WHAT IT READS IS OF BULK AT MOST 1048576: true; the input reads as it did. -/
def fnExactUnfilterImageUptoRow : OpenClaim := { program := "ytchahbdmdcllaaa", sum := "64d37c3c839730c0d5b7d5697fdc56dc9b64ff21ddfe8f714b4588db20a4e591", func := "loop.example/pixelworks/laws.FnExactUnfilterImage", spec := "fnExactUnfilterImage", unfollowed := true, recurses := true, apart := false, narrowed := true }
def FnExactUnfilterImageUptoSaid : Prop := fnExactUnfilterImageUptoRow.holds Try.pinned (OpenSpec.upto fnExactUnfilterImageSpec)

/-- 'laws.FnUnfilterImage', WHERE WHAT IT READS IS OF BULK AT MOST 1048576: true; the input reads as it did. -/
def fnUnfilterImageUptoRow : OpenClaim := { program := "ytchahbdmdcllaaa", sum := "64d37c3c839730c0d5b7d5697fdc56dc9b64ff21ddfe8f714b4588db20a4e591", func := "loop.example/pixelworks/laws.FnUnfilterImage", spec := "fnUnfilterImage", unfollowed := true, recurses := true, apart := false, narrowed := true }
def FnUnfilterImageUptoSaid : Prop := fnUnfilterImageUptoRow.holds Try.pinned (OpenSpec.upto fnUnfilterImageSpec)

/-- 'laws.FnExactWriteImage', WHERE WHAT IT READS IS OF BULK AT MOST 1048576: true; the input reads as it did. -/
def fnExactWriteImageUptoRow : OpenClaim := { program := "ytchahbdmdcllaaa", sum := "64d37c3c839730c0d5b7d5697fdc56dc9b64ff21ddfe8f714b4588db20a4e591", func := "loop.example/pixelworks/laws.FnExactWriteImage", spec := "fnExactWriteImage", unfollowed := true, recurses := true, apart := false, narrowed := true }
def FnExactWriteImageUptoSaid : Prop := fnExactWriteImageUptoRow.holds Try.pinned (OpenSpec.upto fnExactWriteImageSpec)

/-- 'laws.FnWriteImage', WHERE WHAT IT READS IS OF BULK AT MOST 1048576: true; the input reads as it did. -/
def fnWriteImageUptoRow : OpenClaim := { program := "ytchahbdmdcllaaa", sum := "64d37c3c839730c0d5b7d5697fdc56dc9b64ff21ddfe8f714b4588db20a4e591", func := "loop.example/pixelworks/laws.FnWriteImage", spec := "fnWriteImage", unfollowed := true, recurses := true, apart := false, narrowed := true }
def FnWriteImageUptoSaid : Prop := fnWriteImageUptoRow.holds Try.pinned (OpenSpec.upto fnWriteImageSpec)

end Rows
end Go.Proofs.Ytchahbdmdcllaaa
