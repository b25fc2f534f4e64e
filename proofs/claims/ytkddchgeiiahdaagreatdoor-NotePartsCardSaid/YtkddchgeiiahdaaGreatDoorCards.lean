/-
  DERIVED. GIVEN WITH THE SEED: THE CARDS: each row of YtkddchgeiiahdaaGreatDoorRows.lean that lists a variable, with what it lists TIED to the program's text (the seventh form; the later family's looks); each row that meets fmt, with fmt's text TOLD by the authors' own Lean function (tested against real Go, not proved from fmt's source: count such statements apart). THE CARD IS WHAT COUNTS. Prove the row's statement (the work); the ties are given (YtkddchgeiiahdaaGreatDoorTie.lean); close each card by the builder's one call (the guide's Derived/Test/ToyasCard.lean, 'card_holds'). Laid BY PROGRAM, IN A SANDBOX (cutbox-door.mjs). By AI agents, Wed Nov 11 2026. No macro, syntax, notation, axiom, sorry.
-/
import Derived.Test.YtkddchgeiiahdaaGreatDoorRows
import GoSem.ClaimSeven
namespace Go.Proofs.YtkddchgeiiahdaaGreatDoor
namespace Rows

/-- THE TIED CARD OF 'quirelaw18.NoteSplits'. -/
def noteSplitsCard : Claim7 := { stood := { row := noteSplitsRow, standIns := [], harness := (true, "a364b5c09f4cfa16abf437f5c2f6bf25d7050fcede93892df1afdf4d3a4bd703"), looks := false }, kinds := [], alts := [], laidByText := true, laidKinds := [.listed, .data], laidTests := true, laidLooks := .later }
def NoteSplitsCardSaid : Prop := Claim7.holds Tryz.pinned (.plain (OpenSpec.ofChange noteSplitsSpec)) noteSplitsCard

/-- THE TIED CARD OF 'quirelaw18.NoteTells'. -/
def noteTellsCard : Claim7 := { stood := { row := noteTellsRow, standIns := [], harness := (true, "a364b5c09f4cfa16abf437f5c2f6bf25d7050fcede93892df1afdf4d3a4bd703"), looks := false }, kinds := [], alts := [], laidByText := true, laidKinds := [.data, .data, .data, .listed, .data], laidTests := true, laidLooks := .later }
def NoteTellsCardSaid : Prop := Claim7.holds Tryz.pinned (.plain (OpenSpec.ofChange noteTellsSpec)) noteTellsCard

/-- THE TIED CARD OF 'quirelaw18.NoteKnown'. -/
def noteKnownCard : Claim7 := { stood := { row := noteKnownRow, standIns := [], harness := (true, "a364b5c09f4cfa16abf437f5c2f6bf25d7050fcede93892df1afdf4d3a4bd703"), looks := false }, kinds := [], alts := [], laidByText := true, laidKinds := [.data, .data, .data, .listed, .data], laidTests := true, laidLooks := .later }
def NoteKnownCardSaid : Prop := Claim7.holds Tryz.pinned (.plain (OpenSpec.ofChange noteKnownSpec)) noteKnownCard

/-- THE TIED CARD OF 'quirelaw18.NoteParts'. -/
def notePartsCard : Claim7 := { stood := { row := notePartsRow, standIns := [], harness := (true, "a364b5c09f4cfa16abf437f5c2f6bf25d7050fcede93892df1afdf4d3a4bd703"), looks := false }, kinds := [], alts := [], laidByText := true, laidKinds := [.data, .data, .data, .listed, .data], laidTests := true, laidLooks := .later }
def NotePartsCardSaid : Prop := Claim7.holds Tryz.pinned (.plain (OpenSpec.ofChange notePartsSpec)) notePartsCard

/-- THE SECOND FORM's CARD OF 'quirelaw18.NoteSplits'. -/
def noteSplitsUptoCard : Claim7 := { stood := { row := noteSplitsUptoRow, standIns := [], harness := (true, "a364b5c09f4cfa16abf437f5c2f6bf25d7050fcede93892df1afdf4d3a4bd703"), looks := false }, kinds := [], alts := [], laidByText := true, laidKinds := [.listed, .data], laidTests := true, laidLooks := .later }
def NoteSplitsUptoCardSaid : Prop := Claim7.holds Tryz.pinned (.plain (OpenSpec.upto noteSplitsSpec)) noteSplitsUptoCard

/-- THE SECOND FORM's CARD OF 'quirelaw18.NoteTells'. -/
def noteTellsUptoCard : Claim7 := { stood := { row := noteTellsUptoRow, standIns := [], harness := (true, "a364b5c09f4cfa16abf437f5c2f6bf25d7050fcede93892df1afdf4d3a4bd703"), looks := false }, kinds := [], alts := [], laidByText := true, laidKinds := [.data, .data, .data, .listed, .data], laidTests := true, laidLooks := .later }
def NoteTellsUptoCardSaid : Prop := Claim7.holds Tryz.pinned (.plain (OpenSpec.upto noteTellsSpec)) noteTellsUptoCard

/-- THE SECOND FORM's CARD OF 'quirelaw18.NoteKnown'. -/
def noteKnownUptoCard : Claim7 := { stood := { row := noteKnownUptoRow, standIns := [], harness := (true, "a364b5c09f4cfa16abf437f5c2f6bf25d7050fcede93892df1afdf4d3a4bd703"), looks := false }, kinds := [], alts := [], laidByText := true, laidKinds := [.data, .data, .data, .listed, .data], laidTests := true, laidLooks := .later }
def NoteKnownUptoCardSaid : Prop := Claim7.holds Tryz.pinned (.plain (OpenSpec.upto noteKnownSpec)) noteKnownUptoCard

/-- THE SECOND FORM's CARD OF 'quirelaw18.NoteParts'. -/
def notePartsUptoCard : Claim7 := { stood := { row := notePartsUptoRow, standIns := [], harness := (true, "a364b5c09f4cfa16abf437f5c2f6bf25d7050fcede93892df1afdf4d3a4bd703"), looks := false }, kinds := [], alts := [], laidByText := true, laidKinds := [.data, .data, .data, .listed, .data], laidTests := true, laidLooks := .later }
def NotePartsUptoCardSaid : Prop := Claim7.holds Tryz.pinned (.plain (OpenSpec.upto notePartsSpec)) notePartsUptoCard
end Rows
end Go.Proofs.YtkddchgeiiahdaaGreatDoor
