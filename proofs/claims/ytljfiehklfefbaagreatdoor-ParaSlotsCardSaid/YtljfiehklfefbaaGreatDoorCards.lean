/-
  DERIVED. GIVEN WITH THE SEED: THE CARDS: each row of YtljfiehklfefbaaGreatDoorRows.lean that lists a variable, with what it lists TIED to the program's text (the seventh form; the later family's looks); each row that meets fmt, with fmt's text TOLD by the authors' own Lean function (tested against real Go, not proved from fmt's source: count such statements apart). THE CARD IS WHAT COUNTS. Prove the row's statement (the work); the ties are given (YtljfiehklfefbaaGreatDoorTie.lean); close each card by the builder's one call (the guide's Derived/Test/ToyasCard.lean, 'card_holds'). Laid BY PROGRAM, IN A SANDBOX (cutbox-door.mjs). By AI agents, Wed Nov 11 2026. No macro, syntax, notation, axiom, sorry.
-/
import Derived.Test.YtljfiehklfefbaaGreatDoorRows
import GoSem.ClaimSeven
namespace Go.Proofs.YtljfiehklfefbaaGreatDoor
namespace Rows

/-- THE TIED CARD OF 'quirelaw14.ParaKnown'. -/
def paraKnownCard : Claim7 := { stood := { row := paraKnownRow, standIns := [], harness := (true, "0b69ddc22e41748bd8a6889074dc92479c7dd632afc56e9c8778dc1b40268f8b"), looks := false }, kinds := [], alts := [], laidByText := true, laidKinds := [.listed, .data], laidTests := true, laidLooks := .later }
def ParaKnownCardSaid : Prop := Claim7.holds Tryz.pinned (.plain (OpenSpec.ofChange paraKnownSpec)) paraKnownCard

/-- THE TIED CARD OF 'quirelaw14.ParaSlots'. -/
def paraSlotsCard : Claim7 := { stood := { row := paraSlotsRow, standIns := [], harness := (true, "0b69ddc22e41748bd8a6889074dc92479c7dd632afc56e9c8778dc1b40268f8b"), looks := false }, kinds := [], alts := [], laidByText := true, laidKinds := [.listed, .data], laidTests := true, laidLooks := .later }
def ParaSlotsCardSaid : Prop := Claim7.holds Tryz.pinned (.plain (OpenSpec.ofChange paraSlotsSpec)) paraSlotsCard

/-- THE TIED CARD OF 'quirelaw14.ParaTells'. -/
def paraTellsCard : Claim7 := { stood := { row := paraTellsRow, standIns := [], harness := (true, "0b69ddc22e41748bd8a6889074dc92479c7dd632afc56e9c8778dc1b40268f8b"), looks := false }, kinds := [], alts := [], laidByText := true, laidKinds := [.listed, .data], laidTests := true, laidLooks := .later }
def ParaTellsCardSaid : Prop := Claim7.holds Tryz.pinned (.plain (OpenSpec.ofChange paraTellsSpec)) paraTellsCard

/-- THE TIED CARD OF 'quirelaw14.ParaLeast'. -/
def paraLeastCard : Claim7 := { stood := { row := paraLeastRow, standIns := [], harness := (true, "0b69ddc22e41748bd8a6889074dc92479c7dd632afc56e9c8778dc1b40268f8b"), looks := false }, kinds := [], alts := [], laidByText := true, laidKinds := [.listed, .data], laidTests := true, laidLooks := .later }
def ParaLeastCardSaid : Prop := Claim7.holds Tryz.pinned (.plain (OpenSpec.ofChange paraLeastSpec)) paraLeastCard

/-- THE TIED CARD OF 'quirelaw14.ParaWhole'. -/
def paraWholeCard : Claim7 := { stood := { row := paraWholeRow, standIns := [], harness := (true, "0b69ddc22e41748bd8a6889074dc92479c7dd632afc56e9c8778dc1b40268f8b"), looks := false }, kinds := [], alts := [], laidByText := true, laidKinds := [.listed, .data], laidTests := true, laidLooks := .later }
def ParaWholeCardSaid : Prop := Claim7.holds Tryz.pinned (.plain (OpenSpec.ofChange paraWholeSpec)) paraWholeCard

/-- THE SECOND FORM's CARD OF 'quirelaw14.ParaKnown'. -/
def paraKnownUptoCard : Claim7 := { stood := { row := paraKnownUptoRow, standIns := [], harness := (true, "0b69ddc22e41748bd8a6889074dc92479c7dd632afc56e9c8778dc1b40268f8b"), looks := false }, kinds := [], alts := [], laidByText := true, laidKinds := [.listed, .data], laidTests := true, laidLooks := .later }
def ParaKnownUptoCardSaid : Prop := Claim7.holds Tryz.pinned (.plain (OpenSpec.upto paraKnownSpec)) paraKnownUptoCard

/-- THE SECOND FORM's CARD OF 'quirelaw14.ParaSlots'. -/
def paraSlotsUptoCard : Claim7 := { stood := { row := paraSlotsUptoRow, standIns := [], harness := (true, "0b69ddc22e41748bd8a6889074dc92479c7dd632afc56e9c8778dc1b40268f8b"), looks := false }, kinds := [], alts := [], laidByText := true, laidKinds := [.listed, .data], laidTests := true, laidLooks := .later }
def ParaSlotsUptoCardSaid : Prop := Claim7.holds Tryz.pinned (.plain (OpenSpec.upto paraSlotsSpec)) paraSlotsUptoCard

/-- THE SECOND FORM's CARD OF 'quirelaw14.ParaTells'. -/
def paraTellsUptoCard : Claim7 := { stood := { row := paraTellsUptoRow, standIns := [], harness := (true, "0b69ddc22e41748bd8a6889074dc92479c7dd632afc56e9c8778dc1b40268f8b"), looks := false }, kinds := [], alts := [], laidByText := true, laidKinds := [.listed, .data], laidTests := true, laidLooks := .later }
def ParaTellsUptoCardSaid : Prop := Claim7.holds Tryz.pinned (.plain (OpenSpec.upto paraTellsSpec)) paraTellsUptoCard

/-- THE SECOND FORM's CARD OF 'quirelaw14.ParaLeast'. -/
def paraLeastUptoCard : Claim7 := { stood := { row := paraLeastUptoRow, standIns := [], harness := (true, "0b69ddc22e41748bd8a6889074dc92479c7dd632afc56e9c8778dc1b40268f8b"), looks := false }, kinds := [], alts := [], laidByText := true, laidKinds := [.listed, .data], laidTests := true, laidLooks := .later }
def ParaLeastUptoCardSaid : Prop := Claim7.holds Tryz.pinned (.plain (OpenSpec.upto paraLeastSpec)) paraLeastUptoCard

/-- THE SECOND FORM's CARD OF 'quirelaw14.ParaWhole'. -/
def paraWholeUptoCard : Claim7 := { stood := { row := paraWholeUptoRow, standIns := [], harness := (true, "0b69ddc22e41748bd8a6889074dc92479c7dd632afc56e9c8778dc1b40268f8b"), looks := false }, kinds := [], alts := [], laidByText := true, laidKinds := [.listed, .data], laidTests := true, laidLooks := .later }
def ParaWholeUptoCardSaid : Prop := Claim7.holds Tryz.pinned (.plain (OpenSpec.upto paraWholeSpec)) paraWholeUptoCard
end Rows
end Go.Proofs.YtljfiehklfefbaaGreatDoor
