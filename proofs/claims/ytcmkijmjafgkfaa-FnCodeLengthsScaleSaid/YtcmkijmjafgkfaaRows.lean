/-
  No cell of these rows narrows 'for every input' (looked for: loops, veiled, ifaces, maps, wideKeys, modest, calm, conditions, laid).
  DERIVED. THE GIVEN ROWS OF THIS SEAT. 10 by the template 'for every input the law returns true; each argument reads behind the call as it read before'; 0 by the template 'total and deterministic' (their statements: YtcmkijmjafgkfaaTotals.lean).
  GIVEN WITH THE SEED: the statements are not yours to turn. If you find one false, say at which input.
  Laid BY PROGRAM, IN A SANDBOX (cutbox-rows.mjs): the forced cells as the released guide's own fill.sh prints them over the translation 5f1717c7dc6d22a3… (all of the seat's roots in one cut). By AI agents, Wed Nov 11 2026. No macro, syntax, notation, axiom, sorry.
-/
import Derived.Test.YtcmkijmjafgkfaaChecked
import GoSem.Claim
import GoSem.ClaimJoined
import GoSem.ClaimMapViews
import Derived.JoinedTies
import Derived.KernelRfl
namespace Go.Proofs.Ytcmkijmjafgkfaa
/- THE CELL 'sum', in the pinned program and in every row, IS THE sha256 OF THE DUMP (.gsa) THAT YtcmkijmjafgkfaaProg.lean LOADS. Nothing in Lean hashes anything: it is a label: what it is worth is what the hold of that sum in a sandbox is worth. -/
noncomputable def Try.pinned : Pinned := { name := "ytcmkijmjafgkfaa", sum := "5f1717c7dc6d22a38c702a2b6c64287489a7001d4f76a5fcf7b10433a0a04a2c", checked := Try.checked }
namespace Rows
def none {H : Type} : Left H := { results := [], args := [] }

/-- 'laws.FnExactEncodeSymbols': WHATEVER THE INPUT: true; the input reads as it did. -/
def fnExactEncodeSymbolsSpec : ChangeSpec := { name := "fnExactEncodeSymbols", fn := fun _ => fun
  | [d1, d2] => { results := [.lit (.bool true)], args := [d1, d2] }
  | _ => none }
def fnExactEncodeSymbolsRow : OpenClaim := { program := "ytcmkijmjafgkfaa", sum := "5f1717c7dc6d22a38c702a2b6c64287489a7001d4f76a5fcf7b10433a0a04a2c", func := "loop.example/pixelworks/laws.FnExactEncodeSymbols", spec := "fnExactEncodeSymbols", plainKeys := false, apart := false }
def FnExactEncodeSymbolsSaid : Prop := fnExactEncodeSymbolsRow.holds Try.pinned (OpenSpec.ofChange fnExactEncodeSymbolsSpec)

/-- ITS FALSE NEIGHBOUR: 'it returns false'. Refute it at one input. -/
def fnExactEncodeSymbolsWrong : ChangeSpec := { name := "fnExactEncodeSymbols", fn := fun _ => fun
  | [d1, d2] => { results := [.lit (.bool false)], args := [d1, d2] }
  | _ => none }
def FnExactEncodeSymbolsWrongFalsely : Prop := fnExactEncodeSymbolsRow.holds Try.pinned (OpenSpec.ofChange fnExactEncodeSymbolsWrong)

/-- 'laws.FnEncodeSymbols': WHATEVER THE INPUT: true; the input reads as it did. -/
def fnEncodeSymbolsSpec : ChangeSpec := { name := "fnEncodeSymbols", fn := fun _ => fun
  | [d] => { results := [.lit (.bool true)], args := [d] }
  | _ => none }
def fnEncodeSymbolsRow : OpenClaim := { program := "ytcmkijmjafgkfaa", sum := "5f1717c7dc6d22a38c702a2b6c64287489a7001d4f76a5fcf7b10433a0a04a2c", func := "loop.example/pixelworks/laws.FnEncodeSymbols", spec := "fnEncodeSymbols", plainKeys := false, apart := false }
def FnEncodeSymbolsSaid : Prop := fnEncodeSymbolsRow.holds Try.pinned (OpenSpec.ofChange fnEncodeSymbolsSpec)

/-- ITS FALSE NEIGHBOUR: 'it returns false'. Refute it at one input. -/
def fnEncodeSymbolsWrong : ChangeSpec := { name := "fnEncodeSymbols", fn := fun _ => fun
  | [d] => { results := [.lit (.bool false)], args := [d] }
  | _ => none }
def FnEncodeSymbolsWrongFalsely : Prop := fnEncodeSymbolsRow.holds Try.pinned (OpenSpec.ofChange fnEncodeSymbolsWrong)

/-- 'laws.FnExactDecodeSymbols': WHATEVER THE INPUT: true; the input reads as it did. -/
def fnExactDecodeSymbolsSpec : ChangeSpec := { name := "fnExactDecodeSymbols", fn := fun _ => fun
  | [d1, d2] => { results := [.lit (.bool true)], args := [d1, d2] }
  | _ => none }
def fnExactDecodeSymbolsRow : OpenClaim := { program := "ytcmkijmjafgkfaa", sum := "5f1717c7dc6d22a38c702a2b6c64287489a7001d4f76a5fcf7b10433a0a04a2c", func := "loop.example/pixelworks/laws.FnExactDecodeSymbols", spec := "fnExactDecodeSymbols", plainKeys := false, apart := false }
def FnExactDecodeSymbolsSaid : Prop := fnExactDecodeSymbolsRow.holds Try.pinned (OpenSpec.ofChange fnExactDecodeSymbolsSpec)

/-- ITS FALSE NEIGHBOUR: 'it returns false'. Refute it at one input. -/
def fnExactDecodeSymbolsWrong : ChangeSpec := { name := "fnExactDecodeSymbols", fn := fun _ => fun
  | [d1, d2] => { results := [.lit (.bool false)], args := [d1, d2] }
  | _ => none }
def FnExactDecodeSymbolsWrongFalsely : Prop := fnExactDecodeSymbolsRow.holds Try.pinned (OpenSpec.ofChange fnExactDecodeSymbolsWrong)

/-- 'laws.FnDecodeSymbols': WHATEVER THE INPUT: true; the input reads as it did. -/
def fnDecodeSymbolsSpec : ChangeSpec := { name := "fnDecodeSymbols", fn := fun _ => fun
  | [d] => { results := [.lit (.bool true)], args := [d] }
  | _ => none }
def fnDecodeSymbolsRow : OpenClaim := { program := "ytcmkijmjafgkfaa", sum := "5f1717c7dc6d22a38c702a2b6c64287489a7001d4f76a5fcf7b10433a0a04a2c", func := "loop.example/pixelworks/laws.FnDecodeSymbols", spec := "fnDecodeSymbols", plainKeys := false, apart := false }
def FnDecodeSymbolsSaid : Prop := fnDecodeSymbolsRow.holds Try.pinned (OpenSpec.ofChange fnDecodeSymbolsSpec)

/-- ITS FALSE NEIGHBOUR: 'it returns false'. Refute it at one input. -/
def fnDecodeSymbolsWrong : ChangeSpec := { name := "fnDecodeSymbols", fn := fun _ => fun
  | [d] => { results := [.lit (.bool false)], args := [d] }
  | _ => none }
def FnDecodeSymbolsWrongFalsely : Prop := fnDecodeSymbolsRow.holds Try.pinned (OpenSpec.ofChange fnDecodeSymbolsWrong)

/-- 'laws.FnExactCodeLengths': WHATEVER THE INPUT: true; the input reads as it did. -/
def fnExactCodeLengthsSpec : ChangeSpec := { name := "fnExactCodeLengths", fn := fun _ => fun
  | [d] => { results := [.lit (.bool true)], args := [d] }
  | _ => none }
def fnExactCodeLengthsRow : OpenClaim := { program := "ytcmkijmjafgkfaa", sum := "5f1717c7dc6d22a38c702a2b6c64287489a7001d4f76a5fcf7b10433a0a04a2c", func := "loop.example/pixelworks/laws.FnExactCodeLengths", spec := "fnExactCodeLengths", plainKeys := false, apart := false }
def FnExactCodeLengthsSaid : Prop := fnExactCodeLengthsRow.holds Try.pinned (OpenSpec.ofChange fnExactCodeLengthsSpec)

/-- ITS FALSE NEIGHBOUR: 'it returns false'. Refute it at one input. -/
def fnExactCodeLengthsWrong : ChangeSpec := { name := "fnExactCodeLengths", fn := fun _ => fun
  | [d] => { results := [.lit (.bool false)], args := [d] }
  | _ => none }
def FnExactCodeLengthsWrongFalsely : Prop := fnExactCodeLengthsRow.holds Try.pinned (OpenSpec.ofChange fnExactCodeLengthsWrong)

/-- 'laws.FnCodeLengths': WHATEVER THE INPUT: true; the input reads as it did. -/
def fnCodeLengthsSpec : ChangeSpec := { name := "fnCodeLengths", fn := fun _ => fun
  | [d] => { results := [.lit (.bool true)], args := [d] }
  | _ => none }
def fnCodeLengthsRow : OpenClaim := { program := "ytcmkijmjafgkfaa", sum := "5f1717c7dc6d22a38c702a2b6c64287489a7001d4f76a5fcf7b10433a0a04a2c", func := "loop.example/pixelworks/laws.FnCodeLengths", spec := "fnCodeLengths", plainKeys := false, apart := false }
def FnCodeLengthsSaid : Prop := fnCodeLengthsRow.holds Try.pinned (OpenSpec.ofChange fnCodeLengthsSpec)

/-- ITS FALSE NEIGHBOUR: 'it returns false'. Refute it at one input. -/
def fnCodeLengthsWrong : ChangeSpec := { name := "fnCodeLengths", fn := fun _ => fun
  | [d] => { results := [.lit (.bool false)], args := [d] }
  | _ => none }
def FnCodeLengthsWrongFalsely : Prop := fnCodeLengthsRow.holds Try.pinned (OpenSpec.ofChange fnCodeLengthsWrong)

/-- 'laws.FnCodeLengthsOrder': WHATEVER THE INPUT: true; the input reads as it did. -/
def fnCodeLengthsOrderSpec : ChangeSpec := { name := "fnCodeLengthsOrder", fn := fun _ => fun
  | [d] => { results := [.lit (.bool true)], args := [d] }
  | _ => none }
def fnCodeLengthsOrderRow : OpenClaim := { program := "ytcmkijmjafgkfaa", sum := "5f1717c7dc6d22a38c702a2b6c64287489a7001d4f76a5fcf7b10433a0a04a2c", func := "loop.example/pixelworks/laws.FnCodeLengthsOrder", spec := "fnCodeLengthsOrder", plainKeys := false, apart := false }
def FnCodeLengthsOrderSaid : Prop := fnCodeLengthsOrderRow.holds Try.pinned (OpenSpec.ofChange fnCodeLengthsOrderSpec)

/-- ITS FALSE NEIGHBOUR: 'it returns false'. Refute it at one input. -/
def fnCodeLengthsOrderWrong : ChangeSpec := { name := "fnCodeLengthsOrder", fn := fun _ => fun
  | [d] => { results := [.lit (.bool false)], args := [d] }
  | _ => none }
def FnCodeLengthsOrderWrongFalsely : Prop := fnCodeLengthsOrderRow.holds Try.pinned (OpenSpec.ofChange fnCodeLengthsOrderWrong)

/-- 'laws.FnCodeLengthsScale': WHATEVER THE INPUT: true; the input reads as it did. -/
def fnCodeLengthsScaleSpec : ChangeSpec := { name := "fnCodeLengthsScale", fn := fun _ => fun
  | [d] => { results := [.lit (.bool true)], args := [d] }
  | _ => none }
def fnCodeLengthsScaleRow : OpenClaim := { program := "ytcmkijmjafgkfaa", sum := "5f1717c7dc6d22a38c702a2b6c64287489a7001d4f76a5fcf7b10433a0a04a2c", func := "loop.example/pixelworks/laws.FnCodeLengthsScale", spec := "fnCodeLengthsScale", plainKeys := false, apart := false }
def FnCodeLengthsScaleSaid : Prop := fnCodeLengthsScaleRow.holds Try.pinned (OpenSpec.ofChange fnCodeLengthsScaleSpec)

/-- ITS FALSE NEIGHBOUR: 'it returns false'. Refute it at one input. -/
def fnCodeLengthsScaleWrong : ChangeSpec := { name := "fnCodeLengthsScale", fn := fun _ => fun
  | [d] => { results := [.lit (.bool false)], args := [d] }
  | _ => none }
def FnCodeLengthsScaleWrongFalsely : Prop := fnCodeLengthsScaleRow.holds Try.pinned (OpenSpec.ofChange fnCodeLengthsScaleWrong)

/-- 'laws.FnCanonicalCodes': WHATEVER THE INPUT: true; the input reads as it did. -/
def fnCanonicalCodesSpec : ChangeSpec := { name := "fnCanonicalCodes", fn := fun _ => fun
  | [d] => { results := [.lit (.bool true)], args := [d] }
  | _ => none }
def fnCanonicalCodesRow : OpenClaim := { program := "ytcmkijmjafgkfaa", sum := "5f1717c7dc6d22a38c702a2b6c64287489a7001d4f76a5fcf7b10433a0a04a2c", func := "loop.example/pixelworks/laws.FnCanonicalCodes", spec := "fnCanonicalCodes", plainKeys := false, apart := false }
def FnCanonicalCodesSaid : Prop := fnCanonicalCodesRow.holds Try.pinned (OpenSpec.ofChange fnCanonicalCodesSpec)

/-- ITS FALSE NEIGHBOUR: 'it returns false'. Refute it at one input. -/
def fnCanonicalCodesWrong : ChangeSpec := { name := "fnCanonicalCodes", fn := fun _ => fun
  | [d] => { results := [.lit (.bool false)], args := [d] }
  | _ => none }
def FnCanonicalCodesWrongFalsely : Prop := fnCanonicalCodesRow.holds Try.pinned (OpenSpec.ofChange fnCanonicalCodesWrong)

/-- 'laws.FnCanonicalCodesOrder': WHATEVER THE INPUT: true; the input reads as it did. -/
def fnCanonicalCodesOrderSpec : ChangeSpec := { name := "fnCanonicalCodesOrder", fn := fun _ => fun
  | [d] => { results := [.lit (.bool true)], args := [d] }
  | _ => none }
def fnCanonicalCodesOrderRow : OpenClaim := { program := "ytcmkijmjafgkfaa", sum := "5f1717c7dc6d22a38c702a2b6c64287489a7001d4f76a5fcf7b10433a0a04a2c", func := "loop.example/pixelworks/laws.FnCanonicalCodesOrder", spec := "fnCanonicalCodesOrder", plainKeys := false, apart := false }
def FnCanonicalCodesOrderSaid : Prop := fnCanonicalCodesOrderRow.holds Try.pinned (OpenSpec.ofChange fnCanonicalCodesOrderSpec)

/-- ITS FALSE NEIGHBOUR: 'it returns false'. Refute it at one input. -/
def fnCanonicalCodesOrderWrong : ChangeSpec := { name := "fnCanonicalCodesOrder", fn := fun _ => fun
  | [d] => { results := [.lit (.bool false)], args := [d] }
  | _ => none }
def FnCanonicalCodesOrderWrongFalsely : Prop := fnCanonicalCodesOrderRow.holds Try.pinned (OpenSpec.ofChange fnCanonicalCodesOrderWrong)

/- THE SECOND FORM. 'bulk': how many values and letters a reading holds, each counted each time it is reached (what is shared counts as often as it is met; a slice's spare places count too). A statement '..UptoSaid' is the law's where the arguments, and the package variables that the reading takes, are together of bulk at most 1048576: NARROWER than '..Said'. Prove '..Said' where nothing that the law and all that it calls make is longer than what came in: it says more and counts as full. Else prove '..UptoSaid'. A law counts once. -/
mutual
def uptoBulk {H : Type} : DataW H → Nat
  | .lit (.string bytes) => bytes.length + 1
  | .lit _ => 1
  | .nil => 1
  | .ptr d => uptoBulk d + 1
  | .slice elems spare => uptoBulkAll elems + uptoBulkAll spare + 1
  | .agg parts => uptoBulkAll parts + 1
  | .iface _ d => uptoBulk d + 1
  | .map entries => uptoBulkEntries entries + 1
  | .held _ => 1
def uptoBulkAll {H : Type} : List (DataW H) → Nat
  | [] => 0
  | d :: r => uptoBulk d + uptoBulkAll r
def uptoBulkEntries {H : Type} : List (Lit × DataW H) → Nat
  | [] => 0
  | x :: r => uptoBulkEntry x + uptoBulkEntries r
def uptoBulkEntry {H : Type} : Lit × DataW H → Nat
  | (.string bytes, d) => bytes.length + uptoBulk d + 1
  | (_, d) => uptoBulk d + 1
 end
def uptoSmall : (H : Type) → List (DataW H) → Bool := fun _ ds => decide (uptoBulkAll ds ≤ 1048576)
def OpenSpec.upto (s : _root_.Go.ChangeSpec) : _root_.Go.OpenSpec := { _root_.Go.OpenSpec.ofChange s with cond := some uptoSmall }

/-- 'laws.FnExactEncodeSymbols', WHERE WHAT IT READS IS OF BULK AT MOST 1048576: true; the input reads as it did. -/
def fnExactEncodeSymbolsUptoRow : OpenClaim := { program := "ytcmkijmjafgkfaa", sum := "5f1717c7dc6d22a38c702a2b6c64287489a7001d4f76a5fcf7b10433a0a04a2c", func := "loop.example/pixelworks/laws.FnExactEncodeSymbols", spec := "fnExactEncodeSymbols", plainKeys := false, apart := false, narrowed := true }
def FnExactEncodeSymbolsUptoSaid : Prop := fnExactEncodeSymbolsUptoRow.holds Try.pinned (OpenSpec.upto fnExactEncodeSymbolsSpec)

/-- 'laws.FnEncodeSymbols', WHERE WHAT IT READS IS OF BULK AT MOST 1048576: true; the input reads as it did. -/
def fnEncodeSymbolsUptoRow : OpenClaim := { program := "ytcmkijmjafgkfaa", sum := "5f1717c7dc6d22a38c702a2b6c64287489a7001d4f76a5fcf7b10433a0a04a2c", func := "loop.example/pixelworks/laws.FnEncodeSymbols", spec := "fnEncodeSymbols", plainKeys := false, apart := false, narrowed := true }
def FnEncodeSymbolsUptoSaid : Prop := fnEncodeSymbolsUptoRow.holds Try.pinned (OpenSpec.upto fnEncodeSymbolsSpec)

/-- 'laws.FnExactDecodeSymbols', WHERE WHAT IT READS IS OF BULK AT MOST 1048576: true; the input reads as it did. -/
def fnExactDecodeSymbolsUptoRow : OpenClaim := { program := "ytcmkijmjafgkfaa", sum := "5f1717c7dc6d22a38c702a2b6c64287489a7001d4f76a5fcf7b10433a0a04a2c", func := "loop.example/pixelworks/laws.FnExactDecodeSymbols", spec := "fnExactDecodeSymbols", plainKeys := false, apart := false, narrowed := true }
def FnExactDecodeSymbolsUptoSaid : Prop := fnExactDecodeSymbolsUptoRow.holds Try.pinned (OpenSpec.upto fnExactDecodeSymbolsSpec)

/-- 'laws.FnDecodeSymbols', WHERE WHAT IT READS IS OF BULK AT MOST 1048576: true; the input reads as it did. -/
def fnDecodeSymbolsUptoRow : OpenClaim := { program := "ytcmkijmjafgkfaa", sum := "5f1717c7dc6d22a38c702a2b6c64287489a7001d4f76a5fcf7b10433a0a04a2c", func := "loop.example/pixelworks/laws.FnDecodeSymbols", spec := "fnDecodeSymbols", plainKeys := false, apart := false, narrowed := true }
def FnDecodeSymbolsUptoSaid : Prop := fnDecodeSymbolsUptoRow.holds Try.pinned (OpenSpec.upto fnDecodeSymbolsSpec)

/-- 'laws.FnExactCodeLengths', WHERE WHAT IT READS IS OF BULK AT MOST 1048576: true; the input reads as it did. -/
def fnExactCodeLengthsUptoRow : OpenClaim := { program := "ytcmkijmjafgkfaa", sum := "5f1717c7dc6d22a38c702a2b6c64287489a7001d4f76a5fcf7b10433a0a04a2c", func := "loop.example/pixelworks/laws.FnExactCodeLengths", spec := "fnExactCodeLengths", plainKeys := false, apart := false, narrowed := true }
def FnExactCodeLengthsUptoSaid : Prop := fnExactCodeLengthsUptoRow.holds Try.pinned (OpenSpec.upto fnExactCodeLengthsSpec)

/-- 'laws.FnCodeLengths', WHERE WHAT IT READS IS OF BULK AT MOST 1048576: true; the input reads as it did. -/
def fnCodeLengthsUptoRow : OpenClaim := { program := "ytcmkijmjafgkfaa", sum := "5f1717c7dc6d22a38c702a2b6c64287489a7001d4f76a5fcf7b10433a0a04a2c", func := "loop.example/pixelworks/laws.FnCodeLengths", spec := "fnCodeLengths", plainKeys := false, apart := false, narrowed := true }
def FnCodeLengthsUptoSaid : Prop := fnCodeLengthsUptoRow.holds Try.pinned (OpenSpec.upto fnCodeLengthsSpec)

/-- 'laws.FnCodeLengthsOrder', WHERE WHAT IT READS IS OF BULK AT MOST 1048576: true; the input reads as it did. -/
def fnCodeLengthsOrderUptoRow : OpenClaim := { program := "ytcmkijmjafgkfaa", sum := "5f1717c7dc6d22a38c702a2b6c64287489a7001d4f76a5fcf7b10433a0a04a2c", func := "loop.example/pixelworks/laws.FnCodeLengthsOrder", spec := "fnCodeLengthsOrder", plainKeys := false, apart := false, narrowed := true }
def FnCodeLengthsOrderUptoSaid : Prop := fnCodeLengthsOrderUptoRow.holds Try.pinned (OpenSpec.upto fnCodeLengthsOrderSpec)

/-- 'laws.FnCodeLengthsScale', WHERE WHAT IT READS IS OF BULK AT MOST 1048576: true; the input reads as it did. -/
def fnCodeLengthsScaleUptoRow : OpenClaim := { program := "ytcmkijmjafgkfaa", sum := "5f1717c7dc6d22a38c702a2b6c64287489a7001d4f76a5fcf7b10433a0a04a2c", func := "loop.example/pixelworks/laws.FnCodeLengthsScale", spec := "fnCodeLengthsScale", plainKeys := false, apart := false, narrowed := true }
def FnCodeLengthsScaleUptoSaid : Prop := fnCodeLengthsScaleUptoRow.holds Try.pinned (OpenSpec.upto fnCodeLengthsScaleSpec)

/-- 'laws.FnCanonicalCodes', WHERE WHAT IT READS IS OF BULK AT MOST 1048576: true; the input reads as it did. -/
def fnCanonicalCodesUptoRow : OpenClaim := { program := "ytcmkijmjafgkfaa", sum := "5f1717c7dc6d22a38c702a2b6c64287489a7001d4f76a5fcf7b10433a0a04a2c", func := "loop.example/pixelworks/laws.FnCanonicalCodes", spec := "fnCanonicalCodes", plainKeys := false, apart := false, narrowed := true }
def FnCanonicalCodesUptoSaid : Prop := fnCanonicalCodesUptoRow.holds Try.pinned (OpenSpec.upto fnCanonicalCodesSpec)

/-- 'laws.FnCanonicalCodesOrder', WHERE WHAT IT READS IS OF BULK AT MOST 1048576: true; the input reads as it did. -/
def fnCanonicalCodesOrderUptoRow : OpenClaim := { program := "ytcmkijmjafgkfaa", sum := "5f1717c7dc6d22a38c702a2b6c64287489a7001d4f76a5fcf7b10433a0a04a2c", func := "loop.example/pixelworks/laws.FnCanonicalCodesOrder", spec := "fnCanonicalCodesOrder", plainKeys := false, apart := false, narrowed := true }
def FnCanonicalCodesOrderUptoSaid : Prop := fnCanonicalCodesOrderUptoRow.holds Try.pinned (OpenSpec.upto fnCanonicalCodesOrderSpec)

end Rows
end Go.Proofs.Ytcmkijmjafgkfaa
