/-
  DERIVED. GIVEN WITH THE SEED: THE CARDS: each row of YthhpkjnogjjeeaaGreatDoorRows.lean that lists a variable, with what it lists TIED to the program's text (the seventh form; the later family's looks); each row that meets fmt, with fmt's text TOLD by the authors' own Lean function (tested against real Go, not proved from fmt's source: count such statements apart). THE CARD IS WHAT COUNTS. Prove the row's statement (the work); the ties are given (YthhpkjnogjjeeaaGreatDoorTie.lean); close each card by the builder's one call (the guide's Derived/Test/ToyasCard.lean, 'card_holds'). Laid BY PROGRAM, IN A SANDBOX (cutbox-door.mjs). By AI agents, Wed Nov 11 2026. No macro, syntax, notation, axiom, sorry.
-/
import Derived.Test.YthhpkjnogjjeeaaGreatDoorRows
import GoSem.ClaimSeven
namespace Go.Proofs.YthhpkjnogjjeeaaGreatDoor
namespace Rows

/-- THE TIED CARD OF 'quirelaw26.FieldKnown'. -/
def fieldKnownCard : Claim7 := { stood := { row := fieldKnownRow, standIns := [], harness := (true, "45ad20c6e77b91d1d59e43e2a9bf9a27d8b054527c1d4abe6b743cbc75a16ef5"), looks := false }, kinds := [], alts := [], laidByText := true, laidKinds := [.data, .data, .data, .listed, .data], laidTests := true, laidLooks := .later }
def FieldKnownCardSaid : Prop := Claim7.holds Tryz.pinned (.plain (OpenSpec.ofChange fieldKnownSpec)) fieldKnownCard

/-- THE TIED CARD OF 'quirelaw26.FieldNumbers'. -/
def fieldNumbersCard : Claim7 := { stood := { row := fieldNumbersRow, standIns := [], harness := (true, "45ad20c6e77b91d1d59e43e2a9bf9a27d8b054527c1d4abe6b743cbc75a16ef5"), looks := false }, kinds := [], alts := [], laidByText := true, laidKinds := [.data, .data, .data, .listed, .data], laidTests := true, laidLooks := .later }
def FieldNumbersCardSaid : Prop := Claim7.holds Tryz.pinned (.plain (OpenSpec.ofChange fieldNumbersSpec)) fieldNumbersCard

/-- THE SECOND FORM's CARD OF 'quirelaw26.FieldKnown'. -/
def fieldKnownUptoCard : Claim7 := { stood := { row := fieldKnownUptoRow, standIns := [], harness := (true, "45ad20c6e77b91d1d59e43e2a9bf9a27d8b054527c1d4abe6b743cbc75a16ef5"), looks := false }, kinds := [], alts := [], laidByText := true, laidKinds := [.data, .data, .data, .listed, .data], laidTests := true, laidLooks := .later }
def FieldKnownUptoCardSaid : Prop := Claim7.holds Tryz.pinned (.plain (OpenSpec.upto fieldKnownSpec)) fieldKnownUptoCard

/-- THE SECOND FORM's CARD OF 'quirelaw26.FieldNumbers'. -/
def fieldNumbersUptoCard : Claim7 := { stood := { row := fieldNumbersUptoRow, standIns := [], harness := (true, "45ad20c6e77b91d1d59e43e2a9bf9a27d8b054527c1d4abe6b743cbc75a16ef5"), looks := false }, kinds := [], alts := [], laidByText := true, laidKinds := [.data, .data, .data, .listed, .data], laidTests := true, laidLooks := .later }
def FieldNumbersUptoCardSaid : Prop := Claim7.holds Tryz.pinned (.plain (OpenSpec.upto fieldNumbersSpec)) fieldNumbersUptoCard
end Rows
end Go.Proofs.YthhpkjnogjjeeaaGreatDoor
