/-
  DERIVED. GIVEN WITH THE SEED: THE CARDS: each row of YtfnofecgpheaoaaDoorRows.lean that lists a variable, with what it lists TIED to the program's text (the seventh form; the later family's looks); each row that meets fmt, with fmt's text TOLD by the authors' own Lean function (tested against real Go, not proved from fmt's source: count such statements apart). THE CARD IS WHAT COUNTS. Prove the row's statement (the work); the ties are given (YtfnofecgpheaoaaDoorTie.lean); close each card by the builder's one call (the guide's Derived/Test/ToyasCard.lean, 'card_holds'). Laid BY PROGRAM, IN A SANDBOX (cutbox-door.mjs). By AI agents, Wed Nov 11 2026. No macro, syntax, notation, axiom, sorry.
-/
import Derived.Test.YtfnofecgpheaoaaDoorRows
import GoSem.ClaimSeven
namespace Go.Proofs.YtfnofecgpheaoaaDoor
namespace Rows

/-- THE TIED CARD OF 'bandboxlaw12.PadKnown'. -/
def padKnownCard : Claim7 := { stood := { row := padKnownRow, standIns := [], harness := (true, "92a785389bf15ec8c3cdc46fb6e091950c98790fdee8f1b5e1fd8f646646548a"), looks := false }, kinds := [], alts := [], laidByText := true, laidKinds := [.data, .pinned], laidTests := true, laidLooks := .later }
def PadKnownCardSaid : Prop := Claim7.holds Tryd.pinned (.plain (OpenSpec.ofChange padKnownSpec)) padKnownCard

/-- THE TIED CARD OF 'bandboxlaw12.PadSays'. -/
def padSaysCard : Claim7 := { stood := { row := padSaysRow, standIns := [], harness := (true, "92a785389bf15ec8c3cdc46fb6e091950c98790fdee8f1b5e1fd8f646646548a"), looks := false }, kinds := [], alts := [], laidByText := true, laidKinds := [.data, .pinned], laidTests := true, laidLooks := .later }
def PadSaysCardSaid : Prop := Claim7.holds Tryd.pinned (.plain (OpenSpec.ofChange padSaysSpec)) padSaysCard

/-- THE TIED CARD OF 'bandboxlaw12.PadBack'. -/
def padBackCard : Claim7 := { stood := { row := padBackRow, standIns := [], harness := (true, "92a785389bf15ec8c3cdc46fb6e091950c98790fdee8f1b5e1fd8f646646548a"), looks := false }, kinds := [], alts := [], laidByText := true, laidKinds := [.data, .pinned], laidTests := true, laidLooks := .later }
def PadBackCardSaid : Prop := Claim7.holds Tryd.pinned (.plain (OpenSpec.ofChange padBackSpec)) padBackCard

/-- THE SECOND FORM's CARD OF 'bandboxlaw12.PadKnown'. -/
def padKnownUptoCard : Claim7 := { stood := { row := padKnownUptoRow, standIns := [], harness := (true, "92a785389bf15ec8c3cdc46fb6e091950c98790fdee8f1b5e1fd8f646646548a"), looks := false }, kinds := [], alts := [], laidByText := true, laidKinds := [.data, .pinned], laidTests := true, laidLooks := .later }
def PadKnownUptoCardSaid : Prop := Claim7.holds Tryd.pinned (.plain (OpenSpec.upto padKnownSpec)) padKnownUptoCard

/-- THE SECOND FORM's CARD OF 'bandboxlaw12.PadSays'. -/
def padSaysUptoCard : Claim7 := { stood := { row := padSaysUptoRow, standIns := [], harness := (true, "92a785389bf15ec8c3cdc46fb6e091950c98790fdee8f1b5e1fd8f646646548a"), looks := false }, kinds := [], alts := [], laidByText := true, laidKinds := [.data, .pinned], laidTests := true, laidLooks := .later }
def PadSaysUptoCardSaid : Prop := Claim7.holds Tryd.pinned (.plain (OpenSpec.upto padSaysSpec)) padSaysUptoCard

/-- THE SECOND FORM's CARD OF 'bandboxlaw12.PadBack'. -/
def padBackUptoCard : Claim7 := { stood := { row := padBackUptoRow, standIns := [], harness := (true, "92a785389bf15ec8c3cdc46fb6e091950c98790fdee8f1b5e1fd8f646646548a"), looks := false }, kinds := [], alts := [], laidByText := true, laidKinds := [.data, .pinned], laidTests := true, laidLooks := .later }
def PadBackUptoCardSaid : Prop := Claim7.holds Tryd.pinned (.plain (OpenSpec.upto padBackSpec)) padBackUptoCard
end Rows
end Go.Proofs.YtfnofecgpheaoaaDoor
