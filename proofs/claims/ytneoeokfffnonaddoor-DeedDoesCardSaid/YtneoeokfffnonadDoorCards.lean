/-
  DERIVED. GIVEN WITH THE SEED: THE CARDS: each row of YtneoeokfffnonadDoorRows.lean that lists a variable, with what it lists TIED to the program's text (the seventh form; the later family's looks); each row that meets fmt, with fmt's text TOLD by the authors' own Lean function (tested against real Go, not proved from fmt's source: count such statements apart). THE CARD IS WHAT COUNTS. Prove the row's statement (the work); the ties are given (YtneoeokfffnonadDoorTie.lean); close each card by the builder's one call (the guide's Derived/Test/ToyasCard.lean, 'card_holds'). Laid BY PROGRAM, IN A SANDBOX (cutbox-door.mjs). By AI agents, Wed Nov 11 2026. No macro, syntax, notation, axiom, sorry.
-/
import Derived.Test.YtneoeokfffnonadDoorRows
import GoSem.ClaimSeven
namespace Go.Proofs.YtneoeokfffnonadDoor
namespace Rows

/-- THE TIED CARD OF 'quillworklaw.DeedDoes'. -/
def deedDoesCard : Claim7 := { stood := { row := deedDoesRow, standIns := [], harness := (true, "47221d940fef1bb5a21e31ebedc9b4eef296795b0a75edcb5737766ace863484"), looks := true }, kinds := [], alts := [], laidByText := true, laidKinds := [.data, .data, .data, .data, .sentinel, .sentinel, .pinned], laidTests := true, laidLooks := .later }
def DeedDoesCardSaid : Prop := Claim7.holds Tryd.pinned (.plain (OpenSpec.ofChange deedDoesSpec)) deedDoesCard

/-- THE TIED CARD OF 'quillworklaw.DeedBack'. -/
def deedBackCard : Claim7 := { stood := { row := deedBackRow, standIns := [], harness := (true, "47221d940fef1bb5a21e31ebedc9b4eef296795b0a75edcb5737766ace863484"), looks := true }, kinds := [], alts := [], laidByText := true, laidKinds := [.data, .data, .data, .data, .sentinel, .sentinel, .pinned], laidTests := true, laidLooks := .later }
def DeedBackCardSaid : Prop := Claim7.holds Tryd.pinned (.plain (OpenSpec.ofChange deedBackSpec)) deedBackCard

/-- THE TIED CARD OF 'quillworklaw.DeedOne'. -/
def deedOneCard : Claim7 := { stood := { row := deedOneRow, standIns := [], harness := (true, "47221d940fef1bb5a21e31ebedc9b4eef296795b0a75edcb5737766ace863484"), looks := true }, kinds := [], alts := [], laidByText := true, laidKinds := [.data, .data, .data, .data, .sentinel, .sentinel, .pinned], laidTests := true, laidLooks := .later }
def DeedOneCardSaid : Prop := Claim7.holds Tryd.pinned (.plain (OpenSpec.ofChange deedOneSpec)) deedOneCard

/-- THE SECOND FORM's CARD OF 'quillworklaw.DeedDoes'. -/
def deedDoesUptoCard : Claim7 := { stood := { row := deedDoesUptoRow, standIns := [], harness := (true, "47221d940fef1bb5a21e31ebedc9b4eef296795b0a75edcb5737766ace863484"), looks := true }, kinds := [], alts := [], laidByText := true, laidKinds := [.data, .data, .data, .data, .sentinel, .sentinel, .pinned], laidTests := true, laidLooks := .later }
def DeedDoesUptoCardSaid : Prop := Claim7.holds Tryd.pinned (.plain (OpenSpec.upto deedDoesSpec)) deedDoesUptoCard

/-- THE SECOND FORM's CARD OF 'quillworklaw.DeedBack'. -/
def deedBackUptoCard : Claim7 := { stood := { row := deedBackUptoRow, standIns := [], harness := (true, "47221d940fef1bb5a21e31ebedc9b4eef296795b0a75edcb5737766ace863484"), looks := true }, kinds := [], alts := [], laidByText := true, laidKinds := [.data, .data, .data, .data, .sentinel, .sentinel, .pinned], laidTests := true, laidLooks := .later }
def DeedBackUptoCardSaid : Prop := Claim7.holds Tryd.pinned (.plain (OpenSpec.upto deedBackSpec)) deedBackUptoCard

/-- THE SECOND FORM's CARD OF 'quillworklaw.DeedOne'. -/
def deedOneUptoCard : Claim7 := { stood := { row := deedOneUptoRow, standIns := [], harness := (true, "47221d940fef1bb5a21e31ebedc9b4eef296795b0a75edcb5737766ace863484"), looks := true }, kinds := [], alts := [], laidByText := true, laidKinds := [.data, .data, .data, .data, .sentinel, .sentinel, .pinned], laidTests := true, laidLooks := .later }
def DeedOneUptoCardSaid : Prop := Claim7.holds Tryd.pinned (.plain (OpenSpec.upto deedOneSpec)) deedOneUptoCard
end Rows
end Go.Proofs.YtneoeokfffnonadDoor
