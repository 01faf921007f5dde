/-
  No cell of these rows narrows 'for every input' (looked for: loops, veiled, ifaces, maps, wideKeys, modest, calm, conditions, laid).
  DERIVED. THE GIVEN ROWS OF THIS SEAT. 12 by the template 'for every input the law returns true; each argument reads behind the call as it read before'; 0 by the template 'total and deterministic' (their statements: YtgoifophjcbpaaaTotals.lean).
  GIVEN WITH THE SEED: the statements are not yours to turn. If you find one false, say at which input.
  Laid BY PROGRAM, IN A SANDBOX (cutbox-rows.mjs): the forced cells as the released guide's own fill.sh prints them over the translation a7d7a7a1a9e6bf13… (all of the seat's roots in one cut). By AI agents, Wed Nov 11 2026. No macro, syntax, notation, axiom, sorry.
-/
import Derived.Test.YtgoifophjcbpaaaChecked
import GoSem.Claim
import GoSem.ClaimJoined
import GoSem.ClaimMapViews
import Derived.JoinedTies
import Derived.KernelRfl
namespace Go.Proofs.Ytgoifophjcbpaaa
/- THE CELL 'sum', in the pinned program and in every row, IS THE sha256 OF THE DUMP (.gsa) THAT YtgoifophjcbpaaaProg.lean LOADS. Nothing in Lean hashes anything: it is a label: what it is worth is what the hold of that sum in a sandbox is worth. -/
noncomputable def Try.pinned : Pinned := { name := "ytgoifophjcbpaaa", sum := "a7d7a7a1a9e6bf13ad5457c983aebd97ea7aef4c17e78830eb0848da9d3ab5e1", checked := Try.checked }
namespace Rows
def none {H : Type} : Left H := { results := [], args := [] }

/-- 'bandboxlaw12.PadBuckets': WHATEVER THE INPUT: true; the input reads as it did. -/
def padBucketsSpec : ChangeSpec := { name := "padBuckets", fn := fun _ => fun
  | [d1, d2] => { results := [.lit (.bool true)], args := [d1, d2] }
  | _ => none }
def padBucketsRow : OpenClaim := { program := "ytgoifophjcbpaaa", sum := "a7d7a7a1a9e6bf13ad5457c983aebd97ea7aef4c17e78830eb0848da9d3ab5e1", func := "bandbox/bandboxlaw12.PadBuckets", spec := "padBuckets", plainKeys := false, apart := false }
def PadBucketsSaid : Prop := padBucketsRow.holds Try.pinned (OpenSpec.ofChange padBucketsSpec)

/-- ITS FALSE NEIGHBOUR: 'it returns false'. Refute it at one input. -/
def padBucketsWrong : ChangeSpec := { name := "padBuckets", fn := fun _ => fun
  | [d1, d2] => { results := [.lit (.bool false)], args := [d1, d2] }
  | _ => none }
def PadBucketsWrongFalsely : Prop := padBucketsRow.holds Try.pinned (OpenSpec.ofChange padBucketsWrong)

/-- 'bandboxlaw18.KnowGrows': WHATEVER THE INPUT: true; the input reads as it did. -/
def knowGrowsSpec : ChangeSpec := { name := "knowGrows", fn := fun _ => fun
  | [d1, d2, d3] => { results := [.lit (.bool true)], args := [d1, d2, d3] }
  | _ => none }
def knowGrowsRow : OpenClaim := { program := "ytgoifophjcbpaaa", sum := "a7d7a7a1a9e6bf13ad5457c983aebd97ea7aef4c17e78830eb0848da9d3ab5e1", func := "bandbox/bandboxlaw18.KnowGrows", spec := "knowGrows", plainKeys := false, apart := false }
def KnowGrowsSaid : Prop := knowGrowsRow.holds Try.pinned (OpenSpec.ofChange knowGrowsSpec)

/-- ITS FALSE NEIGHBOUR: 'it returns false'. Refute it at one input. -/
def knowGrowsWrong : ChangeSpec := { name := "knowGrows", fn := fun _ => fun
  | [d1, d2, d3] => { results := [.lit (.bool false)], args := [d1, d2, d3] }
  | _ => none }
def KnowGrowsWrongFalsely : Prop := knowGrowsRow.holds Try.pinned (OpenSpec.ofChange knowGrowsWrong)

/-- 'bandboxlaw18.KnowSealed': WHATEVER THE INPUT: true; the input reads as it did. -/
def knowSealedSpec : ChangeSpec := { name := "knowSealed", fn := fun _ => fun
  | [d1, d2] => { results := [.lit (.bool true)], args := [d1, d2] }
  | _ => none }
def knowSealedRow : OpenClaim := { program := "ytgoifophjcbpaaa", sum := "a7d7a7a1a9e6bf13ad5457c983aebd97ea7aef4c17e78830eb0848da9d3ab5e1", func := "bandbox/bandboxlaw18.KnowSealed", spec := "knowSealed", plainKeys := false, apart := false }
def KnowSealedSaid : Prop := knowSealedRow.holds Try.pinned (OpenSpec.ofChange knowSealedSpec)

/-- ITS FALSE NEIGHBOUR: 'it returns false'. Refute it at one input. -/
def knowSealedWrong : ChangeSpec := { name := "knowSealed", fn := fun _ => fun
  | [d1, d2] => { results := [.lit (.bool false)], args := [d1, d2] }
  | _ => none }
def KnowSealedWrongFalsely : Prop := knowSealedRow.holds Try.pinned (OpenSpec.ofChange knowSealedWrong)

/-- 'bandboxlaw18.KnowKnown': WHATEVER THE INPUT: true; the input reads as it did. -/
def knowKnownSpec : ChangeSpec := { name := "knowKnown", fn := fun _ => fun
  | [] => { results := [.lit (.bool true)], args := [] }
  | _ => none }
def knowKnownRow : OpenClaim := { program := "ytgoifophjcbpaaa", sum := "a7d7a7a1a9e6bf13ad5457c983aebd97ea7aef4c17e78830eb0848da9d3ab5e1", func := "bandbox/bandboxlaw18.KnowKnown", spec := "knowKnown", plainKeys := false, apart := false }
def KnowKnownSaid : Prop := knowKnownRow.holds Try.pinned (OpenSpec.ofChange knowKnownSpec)

/-- ITS FALSE NEIGHBOUR: 'it returns false'. Refute it at one input. -/
def knowKnownWrong : ChangeSpec := { name := "knowKnown", fn := fun _ => fun
  | [] => { results := [.lit (.bool false)], args := [] }
  | _ => none }
def KnowKnownWrongFalsely : Prop := knowKnownRow.holds Try.pinned (OpenSpec.ofChange knowKnownWrong)

/-- 'bandboxlaw18.KnowSays': WHATEVER THE INPUT: true; the input reads as it did. -/
def knowSaysSpec : ChangeSpec := { name := "knowSays", fn := fun _ => fun
  | [d1, d2, d3, d4] => { results := [.lit (.bool true)], args := [d1, d2, d3, d4] }
  | _ => none }
def knowSaysRow : OpenClaim := { program := "ytgoifophjcbpaaa", sum := "a7d7a7a1a9e6bf13ad5457c983aebd97ea7aef4c17e78830eb0848da9d3ab5e1", func := "bandbox/bandboxlaw18.KnowSays", spec := "knowSays", plainKeys := false, apart := false }
def KnowSaysSaid : Prop := knowSaysRow.holds Try.pinned (OpenSpec.ofChange knowSaysSpec)

/-- ITS FALSE NEIGHBOUR: 'it returns false'. Refute it at one input. -/
def knowSaysWrong : ChangeSpec := { name := "knowSays", fn := fun _ => fun
  | [d1, d2, d3, d4] => { results := [.lit (.bool false)], args := [d1, d2, d3, d4] }
  | _ => none }
def KnowSaysWrongFalsely : Prop := knowSaysRow.holds Try.pinned (OpenSpec.ofChange knowSaysWrong)

/-- 'bandboxlaw18.KnowPairs': WHATEVER THE INPUT: true; the input reads as it did. -/
def knowPairsSpec : ChangeSpec := { name := "knowPairs", fn := fun _ => fun
  | [d1, d2, d3, d4] => { results := [.lit (.bool true)], args := [d1, d2, d3, d4] }
  | _ => none }
def knowPairsRow : OpenClaim := { program := "ytgoifophjcbpaaa", sum := "a7d7a7a1a9e6bf13ad5457c983aebd97ea7aef4c17e78830eb0848da9d3ab5e1", func := "bandbox/bandboxlaw18.KnowPairs", spec := "knowPairs", plainKeys := false, apart := false }
def KnowPairsSaid : Prop := knowPairsRow.holds Try.pinned (OpenSpec.ofChange knowPairsSpec)

/-- ITS FALSE NEIGHBOUR: 'it returns false'. Refute it at one input. -/
def knowPairsWrong : ChangeSpec := { name := "knowPairs", fn := fun _ => fun
  | [d1, d2, d3, d4] => { results := [.lit (.bool false)], args := [d1, d2, d3, d4] }
  | _ => none }
def KnowPairsWrongFalsely : Prop := knowPairsRow.holds Try.pinned (OpenSpec.ofChange knowPairsWrong)

/-- 'bandboxlaw13.DiskApart': WHATEVER THE INPUT: true; the input reads as it did. -/
def diskApartSpec : ChangeSpec := { name := "diskApart", fn := fun _ => fun
  | [d1, d2, d3, d4] => { results := [.lit (.bool true)], args := [d1, d2, d3, d4] }
  | _ => none }
def diskApartRow : OpenClaim := { program := "ytgoifophjcbpaaa", sum := "a7d7a7a1a9e6bf13ad5457c983aebd97ea7aef4c17e78830eb0848da9d3ab5e1", func := "bandbox/bandboxlaw13.DiskApart", spec := "diskApart", unfollowed := true, recurses := true, plainKeys := false, apart := false }
def DiskApartSaid : Prop := diskApartRow.holds Try.pinned (OpenSpec.ofChange diskApartSpec)

/-- ITS FALSE NEIGHBOUR: 'it returns false'. Refute it at one input. -/
def diskApartWrong : ChangeSpec := { name := "diskApart", fn := fun _ => fun
  | [d1, d2, d3, d4] => { results := [.lit (.bool false)], args := [d1, d2, d3, d4] }
  | _ => none }
def DiskApartWrongFalsely : Prop := diskApartRow.holds Try.pinned (OpenSpec.ofChange diskApartWrong)

/-- 'bandboxlaw3.KdfBegins': WHATEVER THE INPUT: true; the input reads as it did. -/
def kdfBeginsSpec : ChangeSpec := { name := "kdfBegins", fn := fun _ => fun
  | [d1, d2, d3, d4] => { results := [.lit (.bool true)], args := [d1, d2, d3, d4] }
  | _ => none }
def kdfBeginsRow : OpenClaim := { program := "ytgoifophjcbpaaa", sum := "a7d7a7a1a9e6bf13ad5457c983aebd97ea7aef4c17e78830eb0848da9d3ab5e1", func := "bandbox/bandboxlaw3.KdfBegins", spec := "kdfBegins", plainKeys := false, apart := false }
def KdfBeginsSaid : Prop := kdfBeginsRow.holds Try.pinned (OpenSpec.ofChange kdfBeginsSpec)

/-- ITS FALSE NEIGHBOUR: 'it returns false'. Refute it at one input. -/
def kdfBeginsWrong : ChangeSpec := { name := "kdfBegins", fn := fun _ => fun
  | [d1, d2, d3, d4] => { results := [.lit (.bool false)], args := [d1, d2, d3, d4] }
  | _ => none }
def KdfBeginsWrongFalsely : Prop := kdfBeginsRow.holds Try.pinned (OpenSpec.ofChange kdfBeginsWrong)

/-- 'bandboxlaw13.DiskSafe': WHATEVER THE INPUT: true; the input reads as it did. -/
def diskSafeSpec : ChangeSpec := { name := "diskSafe", fn := fun _ => fun
  | [d1, d2, d3, d4] => { results := [.lit (.bool true)], args := [d1, d2, d3, d4] }
  | _ => none }
def diskSafeRow : OpenClaim := { program := "ytgoifophjcbpaaa", sum := "a7d7a7a1a9e6bf13ad5457c983aebd97ea7aef4c17e78830eb0848da9d3ab5e1", func := "bandbox/bandboxlaw13.DiskSafe", spec := "diskSafe", unfollowed := true, recurses := true, plainKeys := false, apart := false }
def DiskSafeSaid : Prop := diskSafeRow.holds Try.pinned (OpenSpec.ofChange diskSafeSpec)

/-- ITS FALSE NEIGHBOUR: 'it returns false'. Refute it at one input. -/
def diskSafeWrong : ChangeSpec := { name := "diskSafe", fn := fun _ => fun
  | [d1, d2, d3, d4] => { results := [.lit (.bool false)], args := [d1, d2, d3, d4] }
  | _ => none }
def DiskSafeWrongFalsely : Prop := diskSafeRow.holds Try.pinned (OpenSpec.ofChange diskSafeWrong)

/-- 'bandboxlaw3.KdfNames': WHATEVER THE INPUT: true; the input reads as it did. -/
def kdfNamesSpec : ChangeSpec := { name := "kdfNames", fn := fun _ => fun
  | [d1, d2, d3] => { results := [.lit (.bool true)], args := [d1, d2, d3] }
  | _ => none }
def kdfNamesRow : OpenClaim := { program := "ytgoifophjcbpaaa", sum := "a7d7a7a1a9e6bf13ad5457c983aebd97ea7aef4c17e78830eb0848da9d3ab5e1", func := "bandbox/bandboxlaw3.KdfNames", spec := "kdfNames", plainKeys := false, apart := false }
def KdfNamesSaid : Prop := kdfNamesRow.holds Try.pinned (OpenSpec.ofChange kdfNamesSpec)

/-- ITS FALSE NEIGHBOUR: 'it returns false'. Refute it at one input. -/
def kdfNamesWrong : ChangeSpec := { name := "kdfNames", fn := fun _ => fun
  | [d1, d2, d3] => { results := [.lit (.bool false)], args := [d1, d2, d3] }
  | _ => none }
def KdfNamesWrongFalsely : Prop := kdfNamesRow.holds Try.pinned (OpenSpec.ofChange kdfNamesWrong)

/-- 'bandboxlaw5.PolyKnown': WHATEVER THE INPUT: true; the input reads as it did. -/
def polyKnownSpec : ChangeSpec := { name := "polyKnown", fn := fun _ => fun
  | [] => { results := [.lit (.bool true)], args := [] }
  | _ => none }
def polyKnownRow : OpenClaim := { program := "ytgoifophjcbpaaa", sum := "a7d7a7a1a9e6bf13ad5457c983aebd97ea7aef4c17e78830eb0848da9d3ab5e1", func := "bandbox/bandboxlaw5.PolyKnown", spec := "polyKnown", inPlace := ["math/bits.Add64"], plainKeys := false, apart := false }
def PolyKnownSaid : Prop := polyKnownRow.holds Try.pinned (OpenSpec.ofChange polyKnownSpec)

/-- ITS FALSE NEIGHBOUR: 'it returns false'. Refute it at one input. -/
def polyKnownWrong : ChangeSpec := { name := "polyKnown", fn := fun _ => fun
  | [] => { results := [.lit (.bool false)], args := [] }
  | _ => none }
def PolyKnownWrongFalsely : Prop := polyKnownRow.holds Try.pinned (OpenSpec.ofChange polyKnownWrong)

/-- 'bandboxlaw5.PolySays': WHATEVER THE INPUT: true; the input reads as it did. -/
def polySaysSpec : ChangeSpec := { name := "polySays", fn := fun _ => fun
  | [d1, d2, d3] => { results := [.lit (.bool true)], args := [d1, d2, d3] }
  | _ => none }
def polySaysRow : OpenClaim := { program := "ytgoifophjcbpaaa", sum := "a7d7a7a1a9e6bf13ad5457c983aebd97ea7aef4c17e78830eb0848da9d3ab5e1", func := "bandbox/bandboxlaw5.PolySays", spec := "polySays", inPlace := ["math/bits.Add64"], plainKeys := false, apart := false }
def PolySaysSaid : Prop := polySaysRow.holds Try.pinned (OpenSpec.ofChange polySaysSpec)

/-- ITS FALSE NEIGHBOUR: 'it returns false'. Refute it at one input. -/
def polySaysWrong : ChangeSpec := { name := "polySays", fn := fun _ => fun
  | [d1, d2, d3] => { results := [.lit (.bool false)], args := [d1, d2, d3] }
  | _ => none }
def PolySaysWrongFalsely : Prop := polySaysRow.holds Try.pinned (OpenSpec.ofChange polySaysWrong)

/- THE SECOND FORM. 'bulk': how many values and letters a reading holds, each counted each time it is reached (what is shared counts as often as it is met; a slice's spare places count too). A statement '..UptoSaid' is the law's where the arguments, and the package variables that the reading takes, are together of bulk at most 1048576: NARROWER than '..Said'. Prove '..Said' where nothing that the law and all that it calls make is longer than what came in: it says more and counts as full. Else prove '..UptoSaid'. A law counts once. -/
mutual
def uptoBulk {H : Type} : DataW H → Nat
  | .lit (.string bytes) => bytes.length + 1
  | .lit _ => 1
  | .nil => 1
  | .ptr d => uptoBulk d + 1
  | .slice elems spare => uptoBulkAll elems + uptoBulkAll spare + 1
  | .agg parts => uptoBulkAll parts + 1
  | .iface _ d => uptoBulk d + 1
  | .map entries => uptoBulkEntries entries + 1
  | .held _ => 1
def uptoBulkAll {H : Type} : List (DataW H) → Nat
  | [] => 0
  | d :: r => uptoBulk d + uptoBulkAll r
def uptoBulkEntries {H : Type} : List (Lit × DataW H) → Nat
  | [] => 0
  | x :: r => uptoBulkEntry x + uptoBulkEntries r
def uptoBulkEntry {H : Type} : Lit × DataW H → Nat
  | (.string bytes, d) => bytes.length + uptoBulk d + 1
  | (_, d) => uptoBulk d + 1
 end
def uptoSmall : (H : Type) → List (DataW H) → Bool := fun _ ds => decide (uptoBulkAll ds ≤ 1048576)
def OpenSpec.upto (s : _root_.Go.ChangeSpec) : _root_.Go.OpenSpec := { _root_.Go.OpenSpec.ofChange s with cond := some uptoSmall }

/-- 'bandboxlaw12.PadBuckets', WHERE WHAT IT READS IS OF BULK AT MOST 1048576: true; the input reads as it did. -/
def padBucketsUptoRow : OpenClaim := { program := "ytgoifophjcbpaaa", sum := "a7d7a7a1a9e6bf13ad5457c983aebd97ea7aef4c17e78830eb0848da9d3ab5e1", func := "bandbox/bandboxlaw12.PadBuckets", spec := "padBuckets", plainKeys := false, apart := false, narrowed := true }
def PadBucketsUptoSaid : Prop := padBucketsUptoRow.holds Try.pinned (OpenSpec.upto padBucketsSpec)

/-- 'bandboxlaw18.KnowGrows', WHERE WHAT IT READS IS OF BULK AT MOST 1048576: true; the input reads as it did. -/
def knowGrowsUptoRow : OpenClaim := { program := "ytgoifophjcbpaaa", sum := "a7d7a7a1a9e6bf13ad5457c983aebd97ea7aef4c17e78830eb0848da9d3ab5e1", func := "bandbox/bandboxlaw18.KnowGrows", spec := "knowGrows", plainKeys := false, apart := false, narrowed := true }
def KnowGrowsUptoSaid : Prop := knowGrowsUptoRow.holds Try.pinned (OpenSpec.upto knowGrowsSpec)

/-- 'bandboxlaw18.KnowSealed', WHERE WHAT IT READS IS OF BULK AT MOST 1048576: true; the input reads as it did. -/
def knowSealedUptoRow : OpenClaim := { program := "ytgoifophjcbpaaa", sum := "a7d7a7a1a9e6bf13ad5457c983aebd97ea7aef4c17e78830eb0848da9d3ab5e1", func := "bandbox/bandboxlaw18.KnowSealed", spec := "knowSealed", plainKeys := false, apart := false, narrowed := true }
def KnowSealedUptoSaid : Prop := knowSealedUptoRow.holds Try.pinned (OpenSpec.upto knowSealedSpec)

/-- 'bandboxlaw18.KnowKnown', WHERE WHAT IT READS IS OF BULK AT MOST 1048576: true; the input reads as it did. -/
def knowKnownUptoRow : OpenClaim := { program := "ytgoifophjcbpaaa", sum := "a7d7a7a1a9e6bf13ad5457c983aebd97ea7aef4c17e78830eb0848da9d3ab5e1", func := "bandbox/bandboxlaw18.KnowKnown", spec := "knowKnown", plainKeys := false, apart := false, narrowed := true }
def KnowKnownUptoSaid : Prop := knowKnownUptoRow.holds Try.pinned (OpenSpec.upto knowKnownSpec)

/-- 'bandboxlaw18.KnowSays', WHERE WHAT IT READS IS OF BULK AT MOST 1048576: true; the input reads as it did. -/
def knowSaysUptoRow : OpenClaim := { program := "ytgoifophjcbpaaa", sum := "a7d7a7a1a9e6bf13ad5457c983aebd97ea7aef4c17e78830eb0848da9d3ab5e1", func := "bandbox/bandboxlaw18.KnowSays", spec := "knowSays", plainKeys := false, apart := false, narrowed := true }
def KnowSaysUptoSaid : Prop := knowSaysUptoRow.holds Try.pinned (OpenSpec.upto knowSaysSpec)

/-- 'bandboxlaw18.KnowPairs', WHERE WHAT IT READS IS OF BULK AT MOST 1048576: true; the input reads as it did. -/
def knowPairsUptoRow : OpenClaim := { program := "ytgoifophjcbpaaa", sum := "a7d7a7a1a9e6bf13ad5457c983aebd97ea7aef4c17e78830eb0848da9d3ab5e1", func := "bandbox/bandboxlaw18.KnowPairs", spec := "knowPairs", plainKeys := false, apart := false, narrowed := true }
def KnowPairsUptoSaid : Prop := knowPairsUptoRow.holds Try.pinned (OpenSpec.upto knowPairsSpec)

/-- 'bandboxlaw13.DiskApart', WHERE WHAT IT READS IS OF BULK AT MOST 1048576: true; the input reads as it did. -/
def diskApartUptoRow : OpenClaim := { program := "ytgoifophjcbpaaa", sum := "a7d7a7a1a9e6bf13ad5457c983aebd97ea7aef4c17e78830eb0848da9d3ab5e1", func := "bandbox/bandboxlaw13.DiskApart", spec := "diskApart", unfollowed := true, recurses := true, plainKeys := false, apart := false, narrowed := true }
def DiskApartUptoSaid : Prop := diskApartUptoRow.holds Try.pinned (OpenSpec.upto diskApartSpec)

/-- 'bandboxlaw3.KdfBegins', WHERE WHAT IT READS IS OF BULK AT MOST 1048576: true; the input reads as it did. -/
def kdfBeginsUptoRow : OpenClaim := { program := "ytgoifophjcbpaaa", sum := "a7d7a7a1a9e6bf13ad5457c983aebd97ea7aef4c17e78830eb0848da9d3ab5e1", func := "bandbox/bandboxlaw3.KdfBegins", spec := "kdfBegins", plainKeys := false, apart := false, narrowed := true }
def KdfBeginsUptoSaid : Prop := kdfBeginsUptoRow.holds Try.pinned (OpenSpec.upto kdfBeginsSpec)

/-- 'bandboxlaw13.DiskSafe', WHERE WHAT IT READS IS OF BULK AT MOST 1048576: true; the input reads as it did. -/
def diskSafeUptoRow : OpenClaim := { program := "ytgoifophjcbpaaa", sum := "a7d7a7a1a9e6bf13ad5457c983aebd97ea7aef4c17e78830eb0848da9d3ab5e1", func := "bandbox/bandboxlaw13.DiskSafe", spec := "diskSafe", unfollowed := true, recurses := true, plainKeys := false, apart := false, narrowed := true }
def DiskSafeUptoSaid : Prop := diskSafeUptoRow.holds Try.pinned (OpenSpec.upto diskSafeSpec)

/-- 'bandboxlaw3.KdfNames', WHERE WHAT IT READS IS OF BULK AT MOST 1048576: true; the input reads as it did. -/
def kdfNamesUptoRow : OpenClaim := { program := "ytgoifophjcbpaaa", sum := "a7d7a7a1a9e6bf13ad5457c983aebd97ea7aef4c17e78830eb0848da9d3ab5e1", func := "bandbox/bandboxlaw3.KdfNames", spec := "kdfNames", plainKeys := false, apart := false, narrowed := true }
def KdfNamesUptoSaid : Prop := kdfNamesUptoRow.holds Try.pinned (OpenSpec.upto kdfNamesSpec)

/-- 'bandboxlaw5.PolyKnown', WHERE WHAT IT READS IS OF BULK AT MOST 1048576: true; the input reads as it did. -/
def polyKnownUptoRow : OpenClaim := { program := "ytgoifophjcbpaaa", sum := "a7d7a7a1a9e6bf13ad5457c983aebd97ea7aef4c17e78830eb0848da9d3ab5e1", func := "bandbox/bandboxlaw5.PolyKnown", spec := "polyKnown", inPlace := ["math/bits.Add64"], plainKeys := false, apart := false, narrowed := true }
def PolyKnownUptoSaid : Prop := polyKnownUptoRow.holds Try.pinned (OpenSpec.upto polyKnownSpec)

/-- 'bandboxlaw5.PolySays', WHERE WHAT IT READS IS OF BULK AT MOST 1048576: true; the input reads as it did. -/
def polySaysUptoRow : OpenClaim := { program := "ytgoifophjcbpaaa", sum := "a7d7a7a1a9e6bf13ad5457c983aebd97ea7aef4c17e78830eb0848da9d3ab5e1", func := "bandbox/bandboxlaw5.PolySays", spec := "polySays", inPlace := ["math/bits.Add64"], plainKeys := false, apart := false, narrowed := true }
def PolySaysUptoSaid : Prop := polySaysUptoRow.holds Try.pinned (OpenSpec.upto polySaysSpec)

end Rows
end Go.Proofs.Ytgoifophjcbpaaa
