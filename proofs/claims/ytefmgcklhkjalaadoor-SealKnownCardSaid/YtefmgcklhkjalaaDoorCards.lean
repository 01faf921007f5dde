/-
  DERIVED. GIVEN WITH THE SEED: THE CARDS: each row of YtefmgcklhkjalaaDoorRows.lean that lists a variable, with what it lists TIED to the program's text (the seventh form; the later family's looks); each row that meets fmt, with fmt's text TOLD by the authors' own Lean function (tested against real Go, not proved from fmt's source: count such statements apart). THE CARD IS WHAT COUNTS. Prove the row's statement (the work); the ties are given (YtefmgcklhkjalaaDoorTie.lean); close each card by the builder's one call (the guide's Derived/Test/ToyasCard.lean, 'card_holds'). Laid BY PROGRAM, IN A SANDBOX (cutbox-door.mjs). By AI agents, Wed Nov 11 2026. No macro, syntax, notation, axiom, sorry.
-/
import Derived.Test.YtefmgcklhkjalaaDoorRows
import GoSem.ClaimSeven
namespace Go.Proofs.YtefmgcklhkjalaaDoor
namespace Rows

/-- THE TIED CARD OF 'bandboxlaw23.SealBack'. -/
def sealBackCard : Claim7 := { stood := { row := sealBackRow, standIns := [], harness := (true, "a85e60a98a8351077964e6f58e6240690654437560f6f2f6fb1b649adf8a70a0"), looks := false }, kinds := [], alts := [], laidByText := true, laidKinds := [.data, .pinned], laidTests := true, laidLooks := .later }
def SealBackCardSaid : Prop := Claim7.holds Tryd.pinned (.plain (OpenSpec.ofChange sealBackSpec)) sealBackCard

/-- THE TIED CARD OF 'bandboxlaw23.SealKnown'. -/
def sealKnownCard : Claim7 := { stood := { row := sealKnownRow, standIns := [], harness := (true, "a85e60a98a8351077964e6f58e6240690654437560f6f2f6fb1b649adf8a70a0"), looks := false }, kinds := [], alts := [], laidByText := true, laidKinds := [.data, .pinned], laidTests := true, laidLooks := .later }
def SealKnownCardSaid : Prop := Claim7.holds Tryd.pinned (.plain (OpenSpec.ofChange sealKnownSpec)) sealKnownCard

/-- THE SECOND FORM's CARD OF 'bandboxlaw23.SealBack'. -/
def sealBackUptoCard : Claim7 := { stood := { row := sealBackUptoRow, standIns := [], harness := (true, "a85e60a98a8351077964e6f58e6240690654437560f6f2f6fb1b649adf8a70a0"), looks := false }, kinds := [], alts := [], laidByText := true, laidKinds := [.data, .pinned], laidTests := true, laidLooks := .later }
def SealBackUptoCardSaid : Prop := Claim7.holds Tryd.pinned (.plain (OpenSpec.upto sealBackSpec)) sealBackUptoCard

/-- THE SECOND FORM's CARD OF 'bandboxlaw23.SealKnown'. -/
def sealKnownUptoCard : Claim7 := { stood := { row := sealKnownUptoRow, standIns := [], harness := (true, "a85e60a98a8351077964e6f58e6240690654437560f6f2f6fb1b649adf8a70a0"), looks := false }, kinds := [], alts := [], laidByText := true, laidKinds := [.data, .pinned], laidTests := true, laidLooks := .later }
def SealKnownUptoCardSaid : Prop := Claim7.holds Tryd.pinned (.plain (OpenSpec.upto sealKnownSpec)) sealKnownUptoCard
end Rows
end Go.Proofs.YtefmgcklhkjalaaDoor
