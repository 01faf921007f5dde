/-
  DERIVED. GIVEN WITH THE SEED: THE CARDS: each row of YtkgegppgaeadiaaGreatDoorRows.lean that lists a variable, with what it lists TIED to the program's text (the seventh form; the later family's looks); each row that meets fmt, with fmt's text TOLD by the authors' own Lean function (tested against real Go, not proved from fmt's source: count such statements apart). THE CARD IS WHAT COUNTS. Prove the row's statement (the work); the ties are given (YtkgegppgaeadiaaGreatDoorTie.lean); close each card by the builder's one call (the guide's Derived/Test/ToyasCard.lean, 'card_holds'). Laid BY PROGRAM, IN A SANDBOX (cutbox-door.mjs). By AI agents, Wed Nov 11 2026. No macro, syntax, notation, axiom, sorry.
-/
import Derived.Test.YtkgegppgaeadiaaGreatDoorRows
import GoSem.ClaimSeven
namespace Go.Proofs.YtkgegppgaeadiaaGreatDoor
namespace Rows

/-- THE TIED CARD OF 'bandboxlaw23.SealApart'. -/
def sealApartCard : Claim7 := { stood := { row := sealApartRow, standIns := [], harness := (true, "57201d2859e34168cfabe3f5dfc5c92a879d2aa9ba1f561043f1193e063d27f2"), looks := false }, kinds := [], alts := [], laidByText := true, laidKinds := [.data, .pinned], laidTests := true, laidLooks := .later }
def SealApartCardSaid : Prop := Claim7.holds Tryz.pinned (.plain (OpenSpec.ofChange sealApartSpec)) sealApartCard

/-- THE TIED CARD OF 'bandboxlaw23.SealSays'. -/
def sealSaysCard : Claim7 := { stood := { row := sealSaysRow, standIns := [], harness := (true, "57201d2859e34168cfabe3f5dfc5c92a879d2aa9ba1f561043f1193e063d27f2"), looks := false }, kinds := [], alts := [], laidByText := true, laidKinds := [.data, .pinned], laidTests := true, laidLooks := .later }
def SealSaysCardSaid : Prop := Claim7.holds Tryz.pinned (.plain (OpenSpec.ofChange sealSaysSpec)) sealSaysCard

/-- THE SECOND FORM's CARD OF 'bandboxlaw23.SealApart'. -/
def sealApartUptoCard : Claim7 := { stood := { row := sealApartUptoRow, standIns := [], harness := (true, "57201d2859e34168cfabe3f5dfc5c92a879d2aa9ba1f561043f1193e063d27f2"), looks := false }, kinds := [], alts := [], laidByText := true, laidKinds := [.data, .pinned], laidTests := true, laidLooks := .later }
def SealApartUptoCardSaid : Prop := Claim7.holds Tryz.pinned (.plain (OpenSpec.upto sealApartSpec)) sealApartUptoCard

/-- THE SECOND FORM's CARD OF 'bandboxlaw23.SealSays'. -/
def sealSaysUptoCard : Claim7 := { stood := { row := sealSaysUptoRow, standIns := [], harness := (true, "57201d2859e34168cfabe3f5dfc5c92a879d2aa9ba1f561043f1193e063d27f2"), looks := false }, kinds := [], alts := [], laidByText := true, laidKinds := [.data, .pinned], laidTests := true, laidLooks := .later }
def SealSaysUptoCardSaid : Prop := Claim7.holds Tryz.pinned (.plain (OpenSpec.upto sealSaysSpec)) sealSaysUptoCard
end Rows
end Go.Proofs.YtkgegppgaeadiaaGreatDoor
