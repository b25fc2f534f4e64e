/-
  DERIVED. GIVEN WITH THE SEED: THE CARDS: each row of YtdhpdhagnbdhoaaGreatDoorRows.lean that lists a variable, with what it lists TIED to the program's text (the seventh form; the later family's looks); each row that meets fmt, with fmt's text TOLD by the authors' own Lean function (tested against real Go, not proved from fmt's source: count such statements apart). THE CARD IS WHAT COUNTS. Prove the row's statement (the work); the ties are given (YtdhpdhagnbdhoaaGreatDoorTie.lean); close each card by the builder's one call (the guide's Derived/Test/ToyasCard.lean, 'card_holds'). Laid BY PROGRAM, IN A SANDBOX (cutbox-door.mjs). By AI agents, Wed Nov 11 2026. No macro, syntax, notation, axiom, sorry.
-/
import Derived.Test.YtdhpdhagnbdhoaaGreatDoorRows
import GoSem.ClaimSeven
namespace Go.Proofs.YtdhpdhagnbdhoaaGreatDoor
namespace Rows

/-- THE TIED CARD OF 'quirelaw27.CacheKnown'. -/
def cacheKnownCard : Claim7 := { stood := { row := cacheKnownRow, standIns := [], harness := (true, "ea4a7d6123a4d2c1d21fda656ad5d8788bbc30a966d27862f9256cf93b5c596c"), looks := false }, kinds := [], alts := [], laidByText := true, laidKinds := [.listed, .data], laidTests := true, laidLooks := .later }
def CacheKnownCardSaid : Prop := Claim7.holds Tryz.pinned (.plain (OpenSpec.ofChange cacheKnownSpec)) cacheKnownCard

/-- THE TIED CARD OF 'quirelaw17.TableKnown'. -/
def tableKnownCard : Claim7 := { stood := { row := tableKnownRow, standIns := [], harness := (true, "ea4a7d6123a4d2c1d21fda656ad5d8788bbc30a966d27862f9256cf93b5c596c"), looks := false }, kinds := [], alts := [], laidByText := true, laidKinds := [.listed, .data], laidTests := true, laidLooks := .later }
def TableKnownCardSaid : Prop := Claim7.holds Tryz.pinned (.plain (OpenSpec.ofChange tableKnownSpec)) tableKnownCard

/-- THE TIED CARD OF 'quirelaw22.FrameKnown'. -/
def frameKnownCard : Claim7 := { stood := { row := frameKnownRow, standIns := [], harness := (true, "ea4a7d6123a4d2c1d21fda656ad5d8788bbc30a966d27862f9256cf93b5c596c"), looks := false }, kinds := [], alts := [], laidByText := true, laidKinds := [.data, .listed, .data, .pinned], laidTests := true, laidLooks := .later }
def FrameKnownCardSaid : Prop := Claim7.holds Tryz.pinned (.plain (OpenSpec.ofChange frameKnownSpec)) frameKnownCard

/-- THE TIED CARD OF 'quirelaw26.FieldKnown'. -/
def fieldKnownCard : Claim7 := { stood := { row := fieldKnownRow, standIns := [], harness := (true, "ea4a7d6123a4d2c1d21fda656ad5d8788bbc30a966d27862f9256cf93b5c596c"), looks := false }, kinds := [], alts := [], laidByText := true, laidKinds := [.data, .data, .data, .listed, .data], laidTests := true, laidLooks := .later }
def FieldKnownCardSaid : Prop := Claim7.holds Tryz.pinned (.plain (OpenSpec.ofChange fieldKnownSpec)) fieldKnownCard

/-- THE SECOND FORM's CARD OF 'quirelaw27.CacheKnown'. -/
def cacheKnownUptoCard : Claim7 := { stood := { row := cacheKnownUptoRow, standIns := [], harness := (true, "ea4a7d6123a4d2c1d21fda656ad5d8788bbc30a966d27862f9256cf93b5c596c"), looks := false }, kinds := [], alts := [], laidByText := true, laidKinds := [.listed, .data], laidTests := true, laidLooks := .later }
def CacheKnownUptoCardSaid : Prop := Claim7.holds Tryz.pinned (.plain (OpenSpec.upto cacheKnownSpec)) cacheKnownUptoCard

/-- THE SECOND FORM's CARD OF 'quirelaw17.TableKnown'. -/
def tableKnownUptoCard : Claim7 := { stood := { row := tableKnownUptoRow, standIns := [], harness := (true, "ea4a7d6123a4d2c1d21fda656ad5d8788bbc30a966d27862f9256cf93b5c596c"), looks := false }, kinds := [], alts := [], laidByText := true, laidKinds := [.listed, .data], laidTests := true, laidLooks := .later }
def TableKnownUptoCardSaid : Prop := Claim7.holds Tryz.pinned (.plain (OpenSpec.upto tableKnownSpec)) tableKnownUptoCard

/-- THE SECOND FORM's CARD OF 'quirelaw22.FrameKnown'. -/
def frameKnownUptoCard : Claim7 := { stood := { row := frameKnownUptoRow, standIns := [], harness := (true, "ea4a7d6123a4d2c1d21fda656ad5d8788bbc30a966d27862f9256cf93b5c596c"), looks := false }, kinds := [], alts := [], laidByText := true, laidKinds := [.data, .listed, .data, .pinned], laidTests := true, laidLooks := .later }
def FrameKnownUptoCardSaid : Prop := Claim7.holds Tryz.pinned (.plain (OpenSpec.upto frameKnownSpec)) frameKnownUptoCard

/-- THE SECOND FORM's CARD OF 'quirelaw26.FieldKnown'. -/
def fieldKnownUptoCard : Claim7 := { stood := { row := fieldKnownUptoRow, standIns := [], harness := (true, "ea4a7d6123a4d2c1d21fda656ad5d8788bbc30a966d27862f9256cf93b5c596c"), looks := false }, kinds := [], alts := [], laidByText := true, laidKinds := [.data, .data, .data, .listed, .data], laidTests := true, laidLooks := .later }
def FieldKnownUptoCardSaid : Prop := Claim7.holds Tryz.pinned (.plain (OpenSpec.upto fieldKnownSpec)) fieldKnownUptoCard
end Rows
end Go.Proofs.YtdhpdhagnbdhoaaGreatDoor
