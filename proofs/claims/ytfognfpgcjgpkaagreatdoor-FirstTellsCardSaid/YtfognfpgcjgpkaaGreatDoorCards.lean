/-
  DERIVED. GIVEN WITH THE SEED: THE CARDS: each row of YtfognfpgcjgpkaaGreatDoorRows.lean that lists a variable, with what it lists TIED to the program's text (the seventh form; the later family's looks); each row that meets fmt, with fmt's text TOLD by the authors' own Lean function (tested against real Go, not proved from fmt's source: count such statements apart). THE CARD IS WHAT COUNTS. Prove the row's statement (the work); the ties are given (YtfognfpgcjgpkaaGreatDoorTie.lean); close each card by the builder's one call (the guide's Derived/Test/ToyasCard.lean, 'card_holds'). Laid BY PROGRAM, IN A SANDBOX (cutbox-door.mjs). By AI agents, Wed Nov 11 2026. No macro, syntax, notation, axiom, sorry.
-/
import Derived.Test.YtfognfpgcjgpkaaGreatDoorRows
import GoSem.ClaimSeven
namespace Go.Proofs.YtfognfpgcjgpkaaGreatDoor
namespace Rows

/-- THE TIED CARD OF 'quirelaw10.ItemLines'. -/
def itemLinesCard : Claim7 := { stood := { row := itemLinesRow, standIns := [], harness := (true, "90500cc8ce3923a9162a3e4ddf4f70bda8553ebae65b96a025502017eea61d42"), looks := false }, kinds := [], alts := [], laidByText := true, laidKinds := [.listed, .data], laidTests := true, laidLooks := .later }
def ItemLinesCardSaid : Prop := Claim7.holds Tryz.pinned (.plain (OpenSpec.ofChange itemLinesSpec)) itemLinesCard

/-- THE TIED CARD OF 'quirelaw11.FirstTells'. -/
def firstTellsCard : Claim7 := { stood := { row := firstTellsRow, standIns := [], harness := (true, "90500cc8ce3923a9162a3e4ddf4f70bda8553ebae65b96a025502017eea61d42"), looks := false }, kinds := [], alts := [], laidByText := true, laidKinds := [.listed, .data], laidTests := true, laidLooks := .later }
def FirstTellsCardSaid : Prop := Claim7.holds Tryz.pinned (.plain (OpenSpec.ofChange firstTellsSpec)) firstTellsCard

/-- THE SECOND FORM's CARD OF 'quirelaw10.ItemLines'. -/
def itemLinesUptoCard : Claim7 := { stood := { row := itemLinesUptoRow, standIns := [], harness := (true, "90500cc8ce3923a9162a3e4ddf4f70bda8553ebae65b96a025502017eea61d42"), looks := false }, kinds := [], alts := [], laidByText := true, laidKinds := [.listed, .data], laidTests := true, laidLooks := .later }
def ItemLinesUptoCardSaid : Prop := Claim7.holds Tryz.pinned (.plain (OpenSpec.upto itemLinesSpec)) itemLinesUptoCard

/-- THE SECOND FORM's CARD OF 'quirelaw11.FirstTells'. -/
def firstTellsUptoCard : Claim7 := { stood := { row := firstTellsUptoRow, standIns := [], harness := (true, "90500cc8ce3923a9162a3e4ddf4f70bda8553ebae65b96a025502017eea61d42"), looks := false }, kinds := [], alts := [], laidByText := true, laidKinds := [.listed, .data], laidTests := true, laidLooks := .later }
def FirstTellsUptoCardSaid : Prop := Claim7.holds Tryz.pinned (.plain (OpenSpec.upto firstTellsSpec)) firstTellsUptoCard
end Rows
end Go.Proofs.YtfognfpgcjgpkaaGreatDoor
