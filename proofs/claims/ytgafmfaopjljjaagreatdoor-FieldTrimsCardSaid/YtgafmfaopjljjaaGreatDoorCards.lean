/-
  DERIVED. GIVEN WITH THE SEED: THE CARDS: each row of YtgafmfaopjljjaaGreatDoorRows.lean that lists a variable, with what it lists TIED to the program's text (the seventh form; the later family's looks); each row that meets fmt, with fmt's text TOLD by the authors' own Lean function (tested against real Go, not proved from fmt's source: count such statements apart). THE CARD IS WHAT COUNTS. Prove the row's statement (the work); the ties are given (YtgafmfaopjljjaaGreatDoorTie.lean); close each card by the builder's one call (the guide's Derived/Test/ToyasCard.lean, 'card_holds'). Laid BY PROGRAM, IN A SANDBOX (cutbox-door.mjs). By AI agents, Wed Nov 11 2026. No macro, syntax, notation, axiom, sorry.
-/
import Derived.Test.YtgafmfaopjljjaaGreatDoorRows
import GoSem.ClaimSeven
namespace Go.Proofs.YtgafmfaopjljjaaGreatDoor
namespace Rows

/-- THE TIED CARD OF 'quirelaw26.FieldTrims'. -/
def fieldTrimsCard : Claim7 := { stood := { row := fieldTrimsRow, standIns := [], harness := (true, "d72b475e53fe7e76d6dc81fb38cd51c25a59a7e521732dd0338d3370f4cc8a9e"), looks := false }, kinds := [], alts := [], laidByText := true, laidKinds := [.data, .data, .data, .listed, .data], laidTests := true, laidLooks := .later }
def FieldTrimsCardSaid : Prop := Claim7.holds Tryz.pinned (.plain (OpenSpec.ofChange fieldTrimsSpec)) fieldTrimsCard

/-- THE TIED CARD OF 'quirelaw26.FieldSheets'. -/
def fieldSheetsCard : Claim7 := { stood := { row := fieldSheetsRow, standIns := [], harness := (true, "d72b475e53fe7e76d6dc81fb38cd51c25a59a7e521732dd0338d3370f4cc8a9e"), looks := false }, kinds := [], alts := [], laidByText := true, laidKinds := [.data, .data, .data, .listed, .data], laidTests := true, laidLooks := .later }
def FieldSheetsCardSaid : Prop := Claim7.holds Tryz.pinned (.plain (OpenSpec.ofChange fieldSheetsSpec)) fieldSheetsCard

/-- THE SECOND FORM's CARD OF 'quirelaw26.FieldTrims'. -/
def fieldTrimsUptoCard : Claim7 := { stood := { row := fieldTrimsUptoRow, standIns := [], harness := (true, "d72b475e53fe7e76d6dc81fb38cd51c25a59a7e521732dd0338d3370f4cc8a9e"), looks := false }, kinds := [], alts := [], laidByText := true, laidKinds := [.data, .data, .data, .listed, .data], laidTests := true, laidLooks := .later }
def FieldTrimsUptoCardSaid : Prop := Claim7.holds Tryz.pinned (.plain (OpenSpec.upto fieldTrimsSpec)) fieldTrimsUptoCard

/-- THE SECOND FORM's CARD OF 'quirelaw26.FieldSheets'. -/
def fieldSheetsUptoCard : Claim7 := { stood := { row := fieldSheetsUptoRow, standIns := [], harness := (true, "d72b475e53fe7e76d6dc81fb38cd51c25a59a7e521732dd0338d3370f4cc8a9e"), looks := false }, kinds := [], alts := [], laidByText := true, laidKinds := [.data, .data, .data, .listed, .data], laidTests := true, laidLooks := .later }
def FieldSheetsUptoCardSaid : Prop := Claim7.holds Tryz.pinned (.plain (OpenSpec.upto fieldSheetsSpec)) fieldSheetsUptoCard
end Rows
end Go.Proofs.YtgafmfaopjljjaaGreatDoor
