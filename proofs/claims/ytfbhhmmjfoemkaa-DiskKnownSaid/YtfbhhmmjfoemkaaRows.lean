/-
  No cell of these rows narrows 'for every input' (looked for: loops, veiled, ifaces, maps, wideKeys, modest, calm, conditions, laid).
  DERIVED. THE GIVEN ROWS OF THIS SEAT. 12 by the template 'for every input the law returns true; each argument reads behind the call as it read before'; 0 by the template 'total and deterministic' (their statements: YtfbhhmmjfoemkaaTotals.lean).
  GIVEN WITH THE SEED: the statements are not yours to turn. If you find one false, say at which input.
  Laid BY PROGRAM, IN A SANDBOX (cutbox-rows.mjs): the forced cells as the released guide's own fill.sh prints them over the translation 694874a6da36682b… (all of the seat's roots in one cut). By AI agents, Wed Nov 11 2026. No macro, syntax, notation, axiom, sorry.
-/
import Derived.Test.YtfbhhmmjfoemkaaChecked
import GoSem.Claim
import GoSem.ClaimJoined
import GoSem.ClaimMapViews
import Derived.JoinedTies
import Derived.KernelRfl
namespace Go.Proofs.Ytfbhhmmjfoemkaa
/- THE CELL 'sum', in the pinned program and in every row, IS THE sha256 OF THE DUMP (.gsa) THAT YtfbhhmmjfoemkaaProg.lean LOADS. Nothing in Lean hashes anything: it is a label: what it is worth is what the hold of that sum in a sandbox is worth. -/
noncomputable def Try.pinned : Pinned := { name := "ytfbhhmmjfoemkaa", sum := "694874a6da36682b4191f3d82b2c4b9f302780c178ab76226b0833f0805bacca", checked := Try.checked }
namespace Rows
def none {H : Type} : Left H := { results := [], args := [] }

/-- 'bandboxlaw13.DiskApart': WHATEVER THE INPUT: true; the input reads as it did. -/
def diskApartSpec : ChangeSpec := { name := "diskApart", fn := fun _ => fun
  | [d1, d2, d3, d4] => { results := [.lit (.bool true)], args := [d1, d2, d3, d4] }
  | _ => none }
def diskApartRow : OpenClaim := { program := "ytfbhhmmjfoemkaa", sum := "694874a6da36682b4191f3d82b2c4b9f302780c178ab76226b0833f0805bacca", func := "bandbox/bandboxlaw13.DiskApart", spec := "diskApart", unfollowed := true, recurses := true, apart := false }
def DiskApartSaid : Prop := diskApartRow.holds Try.pinned (OpenSpec.ofChange diskApartSpec)

/-- ITS FALSE NEIGHBOUR: 'it returns false'. Refute it at one input. -/
def diskApartWrong : ChangeSpec := { name := "diskApart", fn := fun _ => fun
  | [d1, d2, d3, d4] => { results := [.lit (.bool false)], args := [d1, d2, d3, d4] }
  | _ => none }
def DiskApartWrongFalsely : Prop := diskApartRow.holds Try.pinned (OpenSpec.ofChange diskApartWrong)

/-- 'bandboxlaw13.DiskSafe': WHATEVER THE INPUT: true; the input reads as it did. -/
def diskSafeSpec : ChangeSpec := { name := "diskSafe", fn := fun _ => fun
  | [d1, d2, d3, d4] => { results := [.lit (.bool true)], args := [d1, d2, d3, d4] }
  | _ => none }
def diskSafeRow : OpenClaim := { program := "ytfbhhmmjfoemkaa", sum := "694874a6da36682b4191f3d82b2c4b9f302780c178ab76226b0833f0805bacca", func := "bandbox/bandboxlaw13.DiskSafe", spec := "diskSafe", unfollowed := true, recurses := true, apart := false }
def DiskSafeSaid : Prop := diskSafeRow.holds Try.pinned (OpenSpec.ofChange diskSafeSpec)

/-- ITS FALSE NEIGHBOUR: 'it returns false'. Refute it at one input. -/
def diskSafeWrong : ChangeSpec := { name := "diskSafe", fn := fun _ => fun
  | [d1, d2, d3, d4] => { results := [.lit (.bool false)], args := [d1, d2, d3, d4] }
  | _ => none }
def DiskSafeWrongFalsely : Prop := diskSafeRow.holds Try.pinned (OpenSpec.ofChange diskSafeWrong)

/-- 'bandboxlaw3.KdfNames': WHATEVER THE INPUT: true; the input reads as it did. -/
def kdfNamesSpec : ChangeSpec := { name := "kdfNames", fn := fun _ => fun
  | [d1, d2, d3] => { results := [.lit (.bool true)], args := [d1, d2, d3] }
  | _ => none }
def kdfNamesRow : OpenClaim := { program := "ytfbhhmmjfoemkaa", sum := "694874a6da36682b4191f3d82b2c4b9f302780c178ab76226b0833f0805bacca", func := "bandbox/bandboxlaw3.KdfNames", spec := "kdfNames", apart := false }
def KdfNamesSaid : Prop := kdfNamesRow.holds Try.pinned (OpenSpec.ofChange kdfNamesSpec)

/-- ITS FALSE NEIGHBOUR: 'it returns false'. Refute it at one input. -/
def kdfNamesWrong : ChangeSpec := { name := "kdfNames", fn := fun _ => fun
  | [d1, d2, d3] => { results := [.lit (.bool false)], args := [d1, d2, d3] }
  | _ => none }
def KdfNamesWrongFalsely : Prop := kdfNamesRow.holds Try.pinned (OpenSpec.ofChange kdfNamesWrong)

/-- 'bandboxlaw5.PolySays': WHATEVER THE INPUT: true; the input reads as it did. -/
def polySaysSpec : ChangeSpec := { name := "polySays", fn := fun _ => fun
  | [d1, d2, d3] => { results := [.lit (.bool true)], args := [d1, d2, d3] }
  | _ => none }
def polySaysRow : OpenClaim := { program := "ytfbhhmmjfoemkaa", sum := "694874a6da36682b4191f3d82b2c4b9f302780c178ab76226b0833f0805bacca", func := "bandbox/bandboxlaw5.PolySays", spec := "polySays", inPlace := ["math/bits.Add64"], apart := false }
def PolySaysSaid : Prop := polySaysRow.holds Try.pinned (OpenSpec.ofChange polySaysSpec)

/-- ITS FALSE NEIGHBOUR: 'it returns false'. Refute it at one input. -/
def polySaysWrong : ChangeSpec := { name := "polySays", fn := fun _ => fun
  | [d1, d2, d3] => { results := [.lit (.bool false)], args := [d1, d2, d3] }
  | _ => none }
def PolySaysWrongFalsely : Prop := polySaysRow.holds Try.pinned (OpenSpec.ofChange polySaysWrong)

/-- 'bandboxlaw5.PolyAdds': WHATEVER THE INPUT: true; the input reads as it did. -/
def polyAddsSpec : ChangeSpec := { name := "polyAdds", fn := fun _ => fun
  | [d1, d2, d3] => { results := [.lit (.bool true)], args := [d1, d2, d3] }
  | _ => none }
def polyAddsRow : OpenClaim := { program := "ytfbhhmmjfoemkaa", sum := "694874a6da36682b4191f3d82b2c4b9f302780c178ab76226b0833f0805bacca", func := "bandbox/bandboxlaw5.PolyAdds", spec := "polyAdds", inPlace := ["math/bits.Add64"], apart := false }
def PolyAddsSaid : Prop := polyAddsRow.holds Try.pinned (OpenSpec.ofChange polyAddsSpec)

/-- ITS FALSE NEIGHBOUR: 'it returns false'. Refute it at one input. -/
def polyAddsWrong : ChangeSpec := { name := "polyAdds", fn := fun _ => fun
  | [d1, d2, d3] => { results := [.lit (.bool false)], args := [d1, d2, d3] }
  | _ => none }
def PolyAddsWrongFalsely : Prop := polyAddsRow.holds Try.pinned (OpenSpec.ofChange polyAddsWrong)

/-- 'bandboxlaw5.PolyEnds': WHATEVER THE INPUT: true; the input reads as it did. -/
def polyEndsSpec : ChangeSpec := { name := "polyEnds", fn := fun _ => fun
  | [d1, d2, d3] => { results := [.lit (.bool true)], args := [d1, d2, d3] }
  | _ => none }
def polyEndsRow : OpenClaim := { program := "ytfbhhmmjfoemkaa", sum := "694874a6da36682b4191f3d82b2c4b9f302780c178ab76226b0833f0805bacca", func := "bandbox/bandboxlaw5.PolyEnds", spec := "polyEnds", inPlace := ["math/bits.Add64"], apart := false }
def PolyEndsSaid : Prop := polyEndsRow.holds Try.pinned (OpenSpec.ofChange polyEndsSpec)

/-- ITS FALSE NEIGHBOUR: 'it returns false'. Refute it at one input. -/
def polyEndsWrong : ChangeSpec := { name := "polyEnds", fn := fun _ => fun
  | [d1, d2, d3] => { results := [.lit (.bool false)], args := [d1, d2, d3] }
  | _ => none }
def PolyEndsWrongFalsely : Prop := polyEndsRow.holds Try.pinned (OpenSpec.ofChange polyEndsWrong)

/-- 'bandboxlaw13.DiskKnown': WHATEVER THE INPUT: true; the input reads as it did. -/
def diskKnownSpec : ChangeSpec := { name := "diskKnown", fn := fun _ => fun
  | [] => { results := [.lit (.bool true)], args := [] }
  | _ => none }
def diskKnownRow : OpenClaim := { program := "ytfbhhmmjfoemkaa", sum := "694874a6da36682b4191f3d82b2c4b9f302780c178ab76226b0833f0805bacca", func := "bandbox/bandboxlaw13.DiskKnown", spec := "diskKnown", unfollowed := true, recurses := true, apart := false }
def DiskKnownSaid : Prop := diskKnownRow.holds Try.pinned (OpenSpec.ofChange diskKnownSpec)

/-- ITS FALSE NEIGHBOUR: 'it returns false'. Refute it at one input. -/
def diskKnownWrong : ChangeSpec := { name := "diskKnown", fn := fun _ => fun
  | [] => { results := [.lit (.bool false)], args := [] }
  | _ => none }
def DiskKnownWrongFalsely : Prop := diskKnownRow.holds Try.pinned (OpenSpec.ofChange diskKnownWrong)

/-- 'bandboxlaw13.DiskPlays': WHATEVER THE INPUT: true; the input reads as it did. -/
def diskPlaysSpec : ChangeSpec := { name := "diskPlays", fn := fun _ => fun
  | [d1, d2] => { results := [.lit (.bool true)], args := [d1, d2] }
  | _ => none }
def diskPlaysRow : OpenClaim := { program := "ytfbhhmmjfoemkaa", sum := "694874a6da36682b4191f3d82b2c4b9f302780c178ab76226b0833f0805bacca", func := "bandbox/bandboxlaw13.DiskPlays", spec := "diskPlays", unfollowed := true, recurses := true, apart := false }
def DiskPlaysSaid : Prop := diskPlaysRow.holds Try.pinned (OpenSpec.ofChange diskPlaysSpec)

/-- ITS FALSE NEIGHBOUR: 'it returns false'. Refute it at one input. -/
def diskPlaysWrong : ChangeSpec := { name := "diskPlays", fn := fun _ => fun
  | [d1, d2] => { results := [.lit (.bool false)], args := [d1, d2] }
  | _ => none }
def DiskPlaysWrongFalsely : Prop := diskPlaysRow.holds Try.pinned (OpenSpec.ofChange diskPlaysWrong)

/-- 'bandboxlaw6.AeadKnown': WHATEVER THE INPUT: true; the input reads as it did. -/
def aeadKnownSpec : ChangeSpec := { name := "aeadKnown", fn := fun _ => fun
  | [] => { results := [.lit (.bool true)], args := [] }
  | _ => none }
def aeadKnownRow : OpenClaim := { program := "ytfbhhmmjfoemkaa", sum := "694874a6da36682b4191f3d82b2c4b9f302780c178ab76226b0833f0805bacca", func := "bandbox/bandboxlaw6.AeadKnown", spec := "aeadKnown", inPlace := ["math/bits.Add64"], apart := false }
def AeadKnownSaid : Prop := aeadKnownRow.holds Try.pinned (OpenSpec.ofChange aeadKnownSpec)

/-- ITS FALSE NEIGHBOUR: 'it returns false'. Refute it at one input. -/
def aeadKnownWrong : ChangeSpec := { name := "aeadKnown", fn := fun _ => fun
  | [] => { results := [.lit (.bool false)], args := [] }
  | _ => none }
def AeadKnownWrongFalsely : Prop := aeadKnownRow.holds Try.pinned (OpenSpec.ofChange aeadKnownWrong)

/-- 'bandboxlaw6.AeadSays': WHATEVER THE INPUT: true; the input reads as it did. -/
def aeadSaysSpec : ChangeSpec := { name := "aeadSays", fn := fun _ => fun
  | [d1, d2, d3, d4, d5] => { results := [.lit (.bool true)], args := [d1, d2, d3, d4, d5] }
  | _ => none }
def aeadSaysRow : OpenClaim := { program := "ytfbhhmmjfoemkaa", sum := "694874a6da36682b4191f3d82b2c4b9f302780c178ab76226b0833f0805bacca", func := "bandbox/bandboxlaw6.AeadSays", spec := "aeadSays", inPlace := ["math/bits.Add64"], apart := false }
def AeadSaysSaid : Prop := aeadSaysRow.holds Try.pinned (OpenSpec.ofChange aeadSaysSpec)

/-- ITS FALSE NEIGHBOUR: 'it returns false'. Refute it at one input. -/
def aeadSaysWrong : ChangeSpec := { name := "aeadSays", fn := fun _ => fun
  | [d1, d2, d3, d4, d5] => { results := [.lit (.bool false)], args := [d1, d2, d3, d4, d5] }
  | _ => none }
def AeadSaysWrongFalsely : Prop := aeadSaysRow.holds Try.pinned (OpenSpec.ofChange aeadSaysWrong)

/-- 'bandboxlaw6.AeadBack': WHATEVER THE INPUT: true; the input reads as it did. -/
def aeadBackSpec : ChangeSpec := { name := "aeadBack", fn := fun _ => fun
  | [d1, d2, d3, d4, d5, d6, d7] => { results := [.lit (.bool true)], args := [d1, d2, d3, d4, d5, d6, d7] }
  | _ => none }
def aeadBackRow : OpenClaim := { program := "ytfbhhmmjfoemkaa", sum := "694874a6da36682b4191f3d82b2c4b9f302780c178ab76226b0833f0805bacca", func := "bandbox/bandboxlaw6.AeadBack", spec := "aeadBack", inPlace := ["math/bits.Add64"], apart := false }
def AeadBackSaid : Prop := aeadBackRow.holds Try.pinned (OpenSpec.ofChange aeadBackSpec)

/-- ITS FALSE NEIGHBOUR: 'it returns false'. Refute it at one input. -/
def aeadBackWrong : ChangeSpec := { name := "aeadBack", fn := fun _ => fun
  | [d1, d2, d3, d4, d5, d6, d7] => { results := [.lit (.bool false)], args := [d1, d2, d3, d4, d5, d6, d7] }
  | _ => none }
def AeadBackWrongFalsely : Prop := aeadBackRow.holds Try.pinned (OpenSpec.ofChange aeadBackWrong)

/-- 'bandboxlaw6.AeadParts': WHATEVER THE INPUT: true; the input reads as it did. -/
def aeadPartsSpec : ChangeSpec := { name := "aeadParts", fn := fun _ => fun
  | [d1, d2, d3, d4] => { results := [.lit (.bool true)], args := [d1, d2, d3, d4] }
  | _ => none }
def aeadPartsRow : OpenClaim := { program := "ytfbhhmmjfoemkaa", sum := "694874a6da36682b4191f3d82b2c4b9f302780c178ab76226b0833f0805bacca", func := "bandbox/bandboxlaw6.AeadParts", spec := "aeadParts", inPlace := ["math/bits.Add64"], apart := false }
def AeadPartsSaid : Prop := aeadPartsRow.holds Try.pinned (OpenSpec.ofChange aeadPartsSpec)

/-- ITS FALSE NEIGHBOUR: 'it returns false'. Refute it at one input. -/
def aeadPartsWrong : ChangeSpec := { name := "aeadParts", fn := fun _ => fun
  | [d1, d2, d3, d4] => { results := [.lit (.bool false)], args := [d1, d2, d3, d4] }
  | _ => none }
def AeadPartsWrongFalsely : Prop := aeadPartsRow.holds Try.pinned (OpenSpec.ofChange aeadPartsWrong)

/- THE SECOND FORM. 'bulk': how many values and letters a reading holds, each counted each time it is reached (what is shared counts as often as it is met; a slice's spare places count too). A statement '..UptoSaid' is the law's where the arguments, and the package variables that the reading takes, are together of bulk at most 1048576: NARROWER than '..Said'. Prove '..Said' where nothing that the law and all that it calls make is longer than what came in: it says more and counts as full. Else prove '..UptoSaid'. A law counts once. -/
mutual
def uptoBulk {H : Type} : DataW H → Nat
  | .lit (.string bytes) => bytes.length + 1
  | .lit _ => 1
  | .nil => 1
  | .ptr d => uptoBulk d + 1
  | .slice elems spare => uptoBulkAll elems + uptoBulkAll spare + 1
  | .agg parts => uptoBulkAll parts + 1
  | .iface _ d => uptoBulk d + 1
  | .map entries => uptoBulkEntries entries + 1
  | .held _ => 1
def uptoBulkAll {H : Type} : List (DataW H) → Nat
  | [] => 0
  | d :: r => uptoBulk d + uptoBulkAll r
def uptoBulkEntries {H : Type} : List (Lit × DataW H) → Nat
  | [] => 0
  | x :: r => uptoBulkEntry x + uptoBulkEntries r
def uptoBulkEntry {H : Type} : Lit × DataW H → Nat
  | (.string bytes, d) => bytes.length + uptoBulk d + 1
  | (_, d) => uptoBulk d + 1
 end
def uptoSmall : (H : Type) → List (DataW H) → Bool := fun _ ds => decide (uptoBulkAll ds ≤ 1048576)
def OpenSpec.upto (s : _root_.Go.ChangeSpec) : _root_.Go.OpenSpec := { _root_.Go.OpenSpec.ofChange s with cond := some uptoSmall }

/-- 'bandboxlaw13.DiskApart', WHERE WHAT IT READS IS OF BULK AT MOST 1048576: true; the input reads as it did. -/
def diskApartUptoRow : OpenClaim := { program := "ytfbhhmmjfoemkaa", sum := "694874a6da36682b4191f3d82b2c4b9f302780c178ab76226b0833f0805bacca", func := "bandbox/bandboxlaw13.DiskApart", spec := "diskApart", unfollowed := true, recurses := true, apart := false, narrowed := true }
def DiskApartUptoSaid : Prop := diskApartUptoRow.holds Try.pinned (OpenSpec.upto diskApartSpec)

/-- 'bandboxlaw13.DiskSafe', WHERE WHAT IT READS IS OF BULK AT MOST 1048576: true; the input reads as it did. -/
def diskSafeUptoRow : OpenClaim := { program := "ytfbhhmmjfoemkaa", sum := "694874a6da36682b4191f3d82b2c4b9f302780c178ab76226b0833f0805bacca", func := "bandbox/bandboxlaw13.DiskSafe", spec := "diskSafe", unfollowed := true, recurses := true, apart := false, narrowed := true }
def DiskSafeUptoSaid : Prop := diskSafeUptoRow.holds Try.pinned (OpenSpec.upto diskSafeSpec)

/-- 'bandboxlaw3.KdfNames', WHERE WHAT IT READS IS OF BULK AT MOST 1048576: true; the input reads as it did. -/
def kdfNamesUptoRow : OpenClaim := { program := "ytfbhhmmjfoemkaa", sum := "694874a6da36682b4191f3d82b2c4b9f302780c178ab76226b0833f0805bacca", func := "bandbox/bandboxlaw3.KdfNames", spec := "kdfNames", apart := false, narrowed := true }
def KdfNamesUptoSaid : Prop := kdfNamesUptoRow.holds Try.pinned (OpenSpec.upto kdfNamesSpec)

/-- 'bandboxlaw5.PolySays', WHERE WHAT IT READS IS OF BULK AT MOST 1048576: true; the input reads as it did. -/
def polySaysUptoRow : OpenClaim := { program := "ytfbhhmmjfoemkaa", sum := "694874a6da36682b4191f3d82b2c4b9f302780c178ab76226b0833f0805bacca", func := "bandbox/bandboxlaw5.PolySays", spec := "polySays", inPlace := ["math/bits.Add64"], apart := false, narrowed := true }
def PolySaysUptoSaid : Prop := polySaysUptoRow.holds Try.pinned (OpenSpec.upto polySaysSpec)

/-- 'bandboxlaw5.PolyAdds', WHERE WHAT IT READS IS OF BULK AT MOST 1048576: true; the input reads as it did. -/
def polyAddsUptoRow : OpenClaim := { program := "ytfbhhmmjfoemkaa", sum := "694874a6da36682b4191f3d82b2c4b9f302780c178ab76226b0833f0805bacca", func := "bandbox/bandboxlaw5.PolyAdds", spec := "polyAdds", inPlace := ["math/bits.Add64"], apart := false, narrowed := true }
def PolyAddsUptoSaid : Prop := polyAddsUptoRow.holds Try.pinned (OpenSpec.upto polyAddsSpec)

/-- 'bandboxlaw5.PolyEnds', WHERE WHAT IT READS IS OF BULK AT MOST 1048576: true; the input reads as it did. -/
def polyEndsUptoRow : OpenClaim := { program := "ytfbhhmmjfoemkaa", sum := "694874a6da36682b4191f3d82b2c4b9f302780c178ab76226b0833f0805bacca", func := "bandbox/bandboxlaw5.PolyEnds", spec := "polyEnds", inPlace := ["math/bits.Add64"], apart := false, narrowed := true }
def PolyEndsUptoSaid : Prop := polyEndsUptoRow.holds Try.pinned (OpenSpec.upto polyEndsSpec)

/-- 'bandboxlaw13.DiskKnown', WHERE WHAT IT READS IS OF BULK AT MOST 1048576: true; the input reads as it did. -/
def diskKnownUptoRow : OpenClaim := { program := "ytfbhhmmjfoemkaa", sum := "694874a6da36682b4191f3d82b2c4b9f302780c178ab76226b0833f0805bacca", func := "bandbox/bandboxlaw13.DiskKnown", spec := "diskKnown", unfollowed := true, recurses := true, apart := false, narrowed := true }
def DiskKnownUptoSaid : Prop := diskKnownUptoRow.holds Try.pinned (OpenSpec.upto diskKnownSpec)

/-- 'bandboxlaw13.DiskPlays', WHERE WHAT IT READS IS OF BULK AT MOST 1048576: true; the input reads as it did. -/
def diskPlaysUptoRow : OpenClaim := { program := "ytfbhhmmjfoemkaa", sum := "694874a6da36682b4191f3d82b2c4b9f302780c178ab76226b0833f0805bacca", func := "bandbox/bandboxlaw13.DiskPlays", spec := "diskPlays", unfollowed := true, recurses := true, apart := false, narrowed := true }
def DiskPlaysUptoSaid : Prop := diskPlaysUptoRow.holds Try.pinned (OpenSpec.upto diskPlaysSpec)

/-- 'bandboxlaw6.AeadKnown', WHERE WHAT IT READS IS OF BULK AT MOST 1048576: true; the input reads as it did. -/
def aeadKnownUptoRow : OpenClaim := { program := "ytfbhhmmjfoemkaa", sum := "694874a6da36682b4191f3d82b2c4b9f302780c178ab76226b0833f0805bacca", func := "bandbox/bandboxlaw6.AeadKnown", spec := "aeadKnown", inPlace := ["math/bits.Add64"], apart := false, narrowed := true }
def AeadKnownUptoSaid : Prop := aeadKnownUptoRow.holds Try.pinned (OpenSpec.upto aeadKnownSpec)

/-- 'bandboxlaw6.AeadSays', WHERE WHAT IT READS IS OF BULK AT MOST 1048576: true; the input reads as it did. -/
def aeadSaysUptoRow : OpenClaim := { program := "ytfbhhmmjfoemkaa", sum := "694874a6da36682b4191f3d82b2c4b9f302780c178ab76226b0833f0805bacca", func := "bandbox/bandboxlaw6.AeadSays", spec := "aeadSays", inPlace := ["math/bits.Add64"], apart := false, narrowed := true }
def AeadSaysUptoSaid : Prop := aeadSaysUptoRow.holds Try.pinned (OpenSpec.upto aeadSaysSpec)

/-- 'bandboxlaw6.AeadBack', WHERE WHAT IT READS IS OF BULK AT MOST 1048576: true; the input reads as it did. -/
def aeadBackUptoRow : OpenClaim := { program := "ytfbhhmmjfoemkaa", sum := "694874a6da36682b4191f3d82b2c4b9f302780c178ab76226b0833f0805bacca", func := "bandbox/bandboxlaw6.AeadBack", spec := "aeadBack", inPlace := ["math/bits.Add64"], apart := false, narrowed := true }
def AeadBackUptoSaid : Prop := aeadBackUptoRow.holds Try.pinned (OpenSpec.upto aeadBackSpec)

/-- 'bandboxlaw6.AeadParts', WHERE WHAT IT READS IS OF BULK AT MOST 1048576: true; the input reads as it did. -/
def aeadPartsUptoRow : OpenClaim := { program := "ytfbhhmmjfoemkaa", sum := "694874a6da36682b4191f3d82b2c4b9f302780c178ab76226b0833f0805bacca", func := "bandbox/bandboxlaw6.AeadParts", spec := "aeadParts", inPlace := ["math/bits.Add64"], apart := false, narrowed := true }
def AeadPartsUptoSaid : Prop := aeadPartsUptoRow.holds Try.pinned (OpenSpec.upto aeadPartsSpec)

end Rows
end Go.Proofs.Ytfbhhmmjfoemkaa
