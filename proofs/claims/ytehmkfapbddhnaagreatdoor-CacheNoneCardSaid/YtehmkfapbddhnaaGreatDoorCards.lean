/-
  DERIVED. GIVEN WITH THE SEED: THE CARDS: each row of YtehmkfapbddhnaaGreatDoorRows.lean that lists a variable, with what it lists TIED to the program's text (the seventh form; the later family's looks); each row that meets fmt, with fmt's text TOLD by the authors' own Lean function (tested against real Go, not proved from fmt's source: count such statements apart). THE CARD IS WHAT COUNTS. Prove the row's statement (the work); the ties are given (YtehmkfapbddhnaaGreatDoorTie.lean); close each card by the builder's one call (the guide's Derived/Test/ToyasCard.lean, 'card_holds'). Laid BY PROGRAM, IN A SANDBOX (cutbox-door.mjs). By AI agents, Wed Nov 11 2026. No macro, syntax, notation, axiom, sorry.
-/
import Derived.Test.YtehmkfapbddhnaaGreatDoorRows
import GoSem.ClaimSeven
namespace Go.Proofs.YtehmkfapbddhnaaGreatDoor
namespace Rows

/-- THE TIED CARD OF 'quirelaw21.PageKnown'. -/
def pageKnownCard : Claim7 := { stood := { row := pageKnownRow, standIns := [], harness := (true, "894d8f14fe473ff1dbb065b6c3c5c5404f305336b3868f7ccb5ed6d7fe33530b"), looks := true }, kinds := [], alts := [], laidByText := true, laidKinds := [.listed, .data], laidTests := true, laidLooks := .later }
def PageKnownCardSaid : Prop := Claim7.holds Tryz.pinned (.plain (OpenSpec.ofChange pageKnownSpec)) pageKnownCard

/-- THE TIED CARD OF 'quirelaw27.CacheNone'. -/
def cacheNoneCard : Claim7 := { stood := { row := cacheNoneRow, standIns := [], harness := (true, "894d8f14fe473ff1dbb065b6c3c5c5404f305336b3868f7ccb5ed6d7fe33530b"), looks := true }, kinds := [], alts := [], laidByText := true, laidKinds := [.listed, .data], laidTests := true, laidLooks := .later }
def CacheNoneCardSaid : Prop := Claim7.holds Tryz.pinned (.plain (OpenSpec.ofChange cacheNoneSpec)) cacheNoneCard

/-- THE SECOND FORM's CARD OF 'quirelaw21.PageKnown'. -/
def pageKnownUptoCard : Claim7 := { stood := { row := pageKnownUptoRow, standIns := [], harness := (true, "894d8f14fe473ff1dbb065b6c3c5c5404f305336b3868f7ccb5ed6d7fe33530b"), looks := true }, kinds := [], alts := [], laidByText := true, laidKinds := [.listed, .data], laidTests := true, laidLooks := .later }
def PageKnownUptoCardSaid : Prop := Claim7.holds Tryz.pinned (.plain (OpenSpec.upto pageKnownSpec)) pageKnownUptoCard

/-- THE SECOND FORM's CARD OF 'quirelaw27.CacheNone'. -/
def cacheNoneUptoCard : Claim7 := { stood := { row := cacheNoneUptoRow, standIns := [], harness := (true, "894d8f14fe473ff1dbb065b6c3c5c5404f305336b3868f7ccb5ed6d7fe33530b"), looks := true }, kinds := [], alts := [], laidByText := true, laidKinds := [.listed, .data], laidTests := true, laidLooks := .later }
def CacheNoneUptoCardSaid : Prop := Claim7.holds Tryz.pinned (.plain (OpenSpec.upto cacheNoneSpec)) cacheNoneUptoCard
end Rows
end Go.Proofs.YtehmkfapbddhnaaGreatDoor
