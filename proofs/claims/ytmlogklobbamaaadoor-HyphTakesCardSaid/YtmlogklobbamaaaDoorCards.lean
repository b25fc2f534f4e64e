/-
  DERIVED. GIVEN WITH THE SEED: THE CARDS: each row of YtmlogklobbamaaaDoorRows.lean that lists a variable, with what it lists TIED to the program's text (the seventh form; the later family's looks); each row that meets fmt, with fmt's text TOLD by the authors' own Lean function (tested against real Go, not proved from fmt's source: count such statements apart). THE CARD IS WHAT COUNTS. Prove the row's statement (the work); the ties are given (YtmlogklobbamaaaDoorTie.lean); close each card by the builder's one call (the guide's Derived/Test/ToyasCard.lean, 'card_holds'). Laid BY PROGRAM, IN A SANDBOX (cutbox-door.mjs). By AI agents, Wed Nov 11 2026. No macro, syntax, notation, axiom, sorry.
-/
import Derived.Test.YtmlogklobbamaaaDoorRows
import GoSem.ClaimSeven
namespace Go.Proofs.YtmlogklobbamaaaDoor
namespace Rows

/-- THE TIED CARD OF 'quirelaw09.HyphTells'. -/
def hyphTellsCard : Claim7 := { stood := { row := hyphTellsRow, standIns := [], harness := (true, "943995197a5a79a6177a8ccaa346f37cca0fca77a37e146b8bb520c1dd105938"), looks := false }, kinds := [], alts := [], laidByText := true, laidKinds := [.listed, .data], laidTests := true, laidLooks := .later }
def HyphTellsCardSaid : Prop := Claim7.holds Tryd.pinned (.plain (OpenSpec.ofChange hyphTellsSpec)) hyphTellsCard

/-- THE TIED CARD OF 'quirelaw09.HyphNil'. -/
def hyphNilCard : Claim7 := { stood := { row := hyphNilRow, standIns := [], harness := (true, "943995197a5a79a6177a8ccaa346f37cca0fca77a37e146b8bb520c1dd105938"), looks := false }, kinds := [], alts := [], laidByText := true, laidKinds := [.listed, .data], laidTests := true, laidLooks := .later }
def HyphNilCardSaid : Prop := Claim7.holds Tryd.pinned (.plain (OpenSpec.ofChange hyphNilSpec)) hyphNilCard

/-- THE TIED CARD OF 'quirelaw09.HyphKnown'. -/
def hyphKnownCard : Claim7 := { stood := { row := hyphKnownRow, standIns := [], harness := (true, "943995197a5a79a6177a8ccaa346f37cca0fca77a37e146b8bb520c1dd105938"), looks := false }, kinds := [], alts := [], laidByText := true, laidKinds := [.listed, .data], laidTests := true, laidLooks := .later }
def HyphKnownCardSaid : Prop := Claim7.holds Tryd.pinned (.plain (OpenSpec.ofChange hyphKnownSpec)) hyphKnownCard

/-- THE TIED CARD OF 'quirelaw09.HyphFolds'. -/
def hyphFoldsCard : Claim7 := { stood := { row := hyphFoldsRow, standIns := [], harness := (true, "943995197a5a79a6177a8ccaa346f37cca0fca77a37e146b8bb520c1dd105938"), looks := false }, kinds := [], alts := [], laidByText := true, laidKinds := [.listed, .data], laidTests := true, laidLooks := .later }
def HyphFoldsCardSaid : Prop := Claim7.holds Tryd.pinned (.plain (OpenSpec.ofChange hyphFoldsSpec)) hyphFoldsCard

/-- THE TIED CARD OF 'quirelaw09.HyphTakes'. -/
def hyphTakesCard : Claim7 := { stood := { row := hyphTakesRow, standIns := [], harness := (true, "943995197a5a79a6177a8ccaa346f37cca0fca77a37e146b8bb520c1dd105938"), looks := false }, kinds := [], alts := [], laidByText := true, laidKinds := [.listed, .data], laidTests := true, laidLooks := .later }
def HyphTakesCardSaid : Prop := Claim7.holds Tryd.pinned (.plain (OpenSpec.ofChange hyphTakesSpec)) hyphTakesCard

/-- THE SECOND FORM's CARD OF 'quirelaw09.HyphTells'. -/
def hyphTellsUptoCard : Claim7 := { stood := { row := hyphTellsUptoRow, standIns := [], harness := (true, "943995197a5a79a6177a8ccaa346f37cca0fca77a37e146b8bb520c1dd105938"), looks := false }, kinds := [], alts := [], laidByText := true, laidKinds := [.listed, .data], laidTests := true, laidLooks := .later }
def HyphTellsUptoCardSaid : Prop := Claim7.holds Tryd.pinned (.plain (OpenSpec.upto hyphTellsSpec)) hyphTellsUptoCard

/-- THE SECOND FORM's CARD OF 'quirelaw09.HyphNil'. -/
def hyphNilUptoCard : Claim7 := { stood := { row := hyphNilUptoRow, standIns := [], harness := (true, "943995197a5a79a6177a8ccaa346f37cca0fca77a37e146b8bb520c1dd105938"), looks := false }, kinds := [], alts := [], laidByText := true, laidKinds := [.listed, .data], laidTests := true, laidLooks := .later }
def HyphNilUptoCardSaid : Prop := Claim7.holds Tryd.pinned (.plain (OpenSpec.upto hyphNilSpec)) hyphNilUptoCard

/-- THE SECOND FORM's CARD OF 'quirelaw09.HyphKnown'. -/
def hyphKnownUptoCard : Claim7 := { stood := { row := hyphKnownUptoRow, standIns := [], harness := (true, "943995197a5a79a6177a8ccaa346f37cca0fca77a37e146b8bb520c1dd105938"), looks := false }, kinds := [], alts := [], laidByText := true, laidKinds := [.listed, .data], laidTests := true, laidLooks := .later }
def HyphKnownUptoCardSaid : Prop := Claim7.holds Tryd.pinned (.plain (OpenSpec.upto hyphKnownSpec)) hyphKnownUptoCard

/-- THE SECOND FORM's CARD OF 'quirelaw09.HyphFolds'. -/
def hyphFoldsUptoCard : Claim7 := { stood := { row := hyphFoldsUptoRow, standIns := [], harness := (true, "943995197a5a79a6177a8ccaa346f37cca0fca77a37e146b8bb520c1dd105938"), looks := false }, kinds := [], alts := [], laidByText := true, laidKinds := [.listed, .data], laidTests := true, laidLooks := .later }
def HyphFoldsUptoCardSaid : Prop := Claim7.holds Tryd.pinned (.plain (OpenSpec.upto hyphFoldsSpec)) hyphFoldsUptoCard

/-- THE SECOND FORM's CARD OF 'quirelaw09.HyphTakes'. -/
def hyphTakesUptoCard : Claim7 := { stood := { row := hyphTakesUptoRow, standIns := [], harness := (true, "943995197a5a79a6177a8ccaa346f37cca0fca77a37e146b8bb520c1dd105938"), looks := false }, kinds := [], alts := [], laidByText := true, laidKinds := [.listed, .data], laidTests := true, laidLooks := .later }
def HyphTakesUptoCardSaid : Prop := Claim7.holds Tryd.pinned (.plain (OpenSpec.upto hyphTakesSpec)) hyphTakesUptoCard
end Rows
end Go.Proofs.YtmlogklobbamaaaDoor
