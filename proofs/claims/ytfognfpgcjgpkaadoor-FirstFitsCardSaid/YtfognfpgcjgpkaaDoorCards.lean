/-
  DERIVED. GIVEN WITH THE SEED: THE CARDS: each row of YtfognfpgcjgpkaaDoorRows.lean that lists a variable, with what it lists TIED to the program's text (the seventh form; the later family's looks); each row that meets fmt, with fmt's text TOLD by the authors' own Lean function (tested against real Go, not proved from fmt's source: count such statements apart). THE CARD IS WHAT COUNTS. Prove the row's statement (the work); the ties are given (YtfognfpgcjgpkaaDoorTie.lean); close each card by the builder's one call (the guide's Derived/Test/ToyasCard.lean, 'card_holds'). Laid BY PROGRAM, IN A SANDBOX (cutbox-door.mjs). By AI agents, Wed Nov 11 2026. No macro, syntax, notation, axiom, sorry.
-/
import Derived.Test.YtfognfpgcjgpkaaDoorRows
import GoSem.ClaimSeven
namespace Go.Proofs.YtfognfpgcjgpkaaDoor
namespace Rows

/-- THE TIED CARD OF 'quirelaw10.ItemKnown'. -/
def itemKnownCard : Claim7 := { stood := { row := itemKnownRow, standIns := [], harness := (true, "d85e6b72a4093d85ed47337729b6b700b0c9f1d2cdad043a6557175ee59de660"), looks := false }, kinds := [], alts := [], laidByText := true, laidKinds := [.listed, .data], laidTests := true, laidLooks := .later }
def ItemKnownCardSaid : Prop := Claim7.holds Tryd.pinned (.plain (OpenSpec.ofChange itemKnownSpec)) itemKnownCard

/-- THE TIED CARD OF 'quirelaw10.ItemJoins'. -/
def itemJoinsCard : Claim7 := { stood := { row := itemJoinsRow, standIns := [], harness := (true, "d85e6b72a4093d85ed47337729b6b700b0c9f1d2cdad043a6557175ee59de660"), looks := false }, kinds := [], alts := [], laidByText := true, laidKinds := [.listed, .data], laidTests := true, laidLooks := .later }
def ItemJoinsCardSaid : Prop := Claim7.holds Tryd.pinned (.plain (OpenSpec.ofChange itemJoinsSpec)) itemJoinsCard

/-- THE TIED CARD OF 'quirelaw11.FirstKnown'. -/
def firstKnownCard : Claim7 := { stood := { row := firstKnownRow, standIns := [], harness := (true, "d85e6b72a4093d85ed47337729b6b700b0c9f1d2cdad043a6557175ee59de660"), looks := false }, kinds := [], alts := [], laidByText := true, laidKinds := [.listed, .data], laidTests := true, laidLooks := .later }
def FirstKnownCardSaid : Prop := Claim7.holds Tryd.pinned (.plain (OpenSpec.ofChange firstKnownSpec)) firstKnownCard

/-- THE TIED CARD OF 'quirelaw11.FirstFits'. -/
def firstFitsCard : Claim7 := { stood := { row := firstFitsRow, standIns := [], harness := (true, "d85e6b72a4093d85ed47337729b6b700b0c9f1d2cdad043a6557175ee59de660"), looks := false }, kinds := [], alts := [], laidByText := true, laidKinds := [.listed, .data], laidTests := true, laidLooks := .later }
def FirstFitsCardSaid : Prop := Claim7.holds Tryd.pinned (.plain (OpenSpec.ofChange firstFitsSpec)) firstFitsCard

/-- THE SECOND FORM's CARD OF 'quirelaw10.ItemKnown'. -/
def itemKnownUptoCard : Claim7 := { stood := { row := itemKnownUptoRow, standIns := [], harness := (true, "d85e6b72a4093d85ed47337729b6b700b0c9f1d2cdad043a6557175ee59de660"), looks := false }, kinds := [], alts := [], laidByText := true, laidKinds := [.listed, .data], laidTests := true, laidLooks := .later }
def ItemKnownUptoCardSaid : Prop := Claim7.holds Tryd.pinned (.plain (OpenSpec.upto itemKnownSpec)) itemKnownUptoCard

/-- THE SECOND FORM's CARD OF 'quirelaw10.ItemJoins'. -/
def itemJoinsUptoCard : Claim7 := { stood := { row := itemJoinsUptoRow, standIns := [], harness := (true, "d85e6b72a4093d85ed47337729b6b700b0c9f1d2cdad043a6557175ee59de660"), looks := false }, kinds := [], alts := [], laidByText := true, laidKinds := [.listed, .data], laidTests := true, laidLooks := .later }
def ItemJoinsUptoCardSaid : Prop := Claim7.holds Tryd.pinned (.plain (OpenSpec.upto itemJoinsSpec)) itemJoinsUptoCard

/-- THE SECOND FORM's CARD OF 'quirelaw11.FirstKnown'. -/
def firstKnownUptoCard : Claim7 := { stood := { row := firstKnownUptoRow, standIns := [], harness := (true, "d85e6b72a4093d85ed47337729b6b700b0c9f1d2cdad043a6557175ee59de660"), looks := false }, kinds := [], alts := [], laidByText := true, laidKinds := [.listed, .data], laidTests := true, laidLooks := .later }
def FirstKnownUptoCardSaid : Prop := Claim7.holds Tryd.pinned (.plain (OpenSpec.upto firstKnownSpec)) firstKnownUptoCard

/-- THE SECOND FORM's CARD OF 'quirelaw11.FirstFits'. -/
def firstFitsUptoCard : Claim7 := { stood := { row := firstFitsUptoRow, standIns := [], harness := (true, "d85e6b72a4093d85ed47337729b6b700b0c9f1d2cdad043a6557175ee59de660"), looks := false }, kinds := [], alts := [], laidByText := true, laidKinds := [.listed, .data], laidTests := true, laidLooks := .later }
def FirstFitsUptoCardSaid : Prop := Claim7.holds Tryd.pinned (.plain (OpenSpec.upto firstFitsSpec)) firstFitsUptoCard
end Rows
end Go.Proofs.YtfognfpgcjgpkaaDoor
