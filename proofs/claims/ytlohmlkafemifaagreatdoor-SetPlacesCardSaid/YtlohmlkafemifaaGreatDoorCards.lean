/-
  DERIVED. GIVEN WITH THE SEED: THE CARDS: each row of YtlohmlkafemifaaGreatDoorRows.lean that lists a variable, with what it lists TIED to the program's text (the seventh form; the later family's looks); each row that meets fmt, with fmt's text TOLD by the authors' own Lean function (tested against real Go, not proved from fmt's source: count such statements apart). THE CARD IS WHAT COUNTS. Prove the row's statement (the work); the ties are given (YtlohmlkafemifaaGreatDoorTie.lean); close each card by the builder's one call (the guide's Derived/Test/ToyasCard.lean, 'card_holds'). Laid BY PROGRAM, IN A SANDBOX (cutbox-door.mjs). By AI agents, Wed Nov 11 2026. No macro, syntax, notation, axiom, sorry.
-/
import Derived.Test.YtlohmlkafemifaaGreatDoorRows
import GoSem.ClaimSeven
namespace Go.Proofs.YtlohmlkafemifaaGreatDoor
namespace Rows

/-- THE TIED CARD OF 'quirelaw13.SetKnown'. -/
def setKnownCard : Claim7 := { stood := { row := setKnownRow, standIns := [], harness := (true, "f5f3648db3423ee77fe516fad17d67c653637020e24511606989da23156ad583"), looks := false }, kinds := [], alts := [], laidByText := true, laidKinds := [.listed, .data], laidTests := true, laidLooks := .later }
def SetKnownCardSaid : Prop := Claim7.holds Tryz.pinned (.plain (OpenSpec.ofChange setKnownSpec)) setKnownCard

/-- THE TIED CARD OF 'quirelaw13.SetOrders'. -/
def setOrdersCard : Claim7 := { stood := { row := setOrdersRow, standIns := [], harness := (true, "f5f3648db3423ee77fe516fad17d67c653637020e24511606989da23156ad583"), looks := false }, kinds := [], alts := [], laidByText := true, laidKinds := [.listed, .data], laidTests := true, laidLooks := .later }
def SetOrdersCardSaid : Prop := Claim7.holds Tryz.pinned (.plain (OpenSpec.ofChange setOrdersSpec)) setOrdersCard

/-- THE TIED CARD OF 'quirelaw13.SetPlaces'. -/
def setPlacesCard : Claim7 := { stood := { row := setPlacesRow, standIns := [], harness := (true, "f5f3648db3423ee77fe516fad17d67c653637020e24511606989da23156ad583"), looks := false }, kinds := [], alts := [], laidByText := true, laidKinds := [.listed, .data], laidTests := true, laidLooks := .later }
def SetPlacesCardSaid : Prop := Claim7.holds Tryz.pinned (.plain (OpenSpec.ofChange setPlacesSpec)) setPlacesCard

/-- THE TIED CARD OF 'quirelaw13.SetEnds'. -/
def setEndsCard : Claim7 := { stood := { row := setEndsRow, standIns := [], harness := (true, "f5f3648db3423ee77fe516fad17d67c653637020e24511606989da23156ad583"), looks := false }, kinds := [], alts := [], laidByText := true, laidKinds := [.listed, .data], laidTests := true, laidLooks := .later }
def SetEndsCardSaid : Prop := Claim7.holds Tryz.pinned (.plain (OpenSpec.ofChange setEndsSpec)) setEndsCard

/-- THE TIED CARD OF 'quirelaw12.LeastKnown'. -/
def leastKnownCard : Claim7 := { stood := { row := leastKnownRow, standIns := [], harness := (true, "f5f3648db3423ee77fe516fad17d67c653637020e24511606989da23156ad583"), looks := false }, kinds := [], alts := [], laidByText := true, laidKinds := [.listed, .data], laidTests := true, laidLooks := .later }
def LeastKnownCardSaid : Prop := Claim7.holds Tryz.pinned (.plain (OpenSpec.ofChange leastKnownSpec)) leastKnownCard

/-- THE SECOND FORM's CARD OF 'quirelaw13.SetKnown'. -/
def setKnownUptoCard : Claim7 := { stood := { row := setKnownUptoRow, standIns := [], harness := (true, "f5f3648db3423ee77fe516fad17d67c653637020e24511606989da23156ad583"), looks := false }, kinds := [], alts := [], laidByText := true, laidKinds := [.listed, .data], laidTests := true, laidLooks := .later }
def SetKnownUptoCardSaid : Prop := Claim7.holds Tryz.pinned (.plain (OpenSpec.upto setKnownSpec)) setKnownUptoCard

/-- THE SECOND FORM's CARD OF 'quirelaw13.SetOrders'. -/
def setOrdersUptoCard : Claim7 := { stood := { row := setOrdersUptoRow, standIns := [], harness := (true, "f5f3648db3423ee77fe516fad17d67c653637020e24511606989da23156ad583"), looks := false }, kinds := [], alts := [], laidByText := true, laidKinds := [.listed, .data], laidTests := true, laidLooks := .later }
def SetOrdersUptoCardSaid : Prop := Claim7.holds Tryz.pinned (.plain (OpenSpec.upto setOrdersSpec)) setOrdersUptoCard

/-- THE SECOND FORM's CARD OF 'quirelaw13.SetPlaces'. -/
def setPlacesUptoCard : Claim7 := { stood := { row := setPlacesUptoRow, standIns := [], harness := (true, "f5f3648db3423ee77fe516fad17d67c653637020e24511606989da23156ad583"), looks := false }, kinds := [], alts := [], laidByText := true, laidKinds := [.listed, .data], laidTests := true, laidLooks := .later }
def SetPlacesUptoCardSaid : Prop := Claim7.holds Tryz.pinned (.plain (OpenSpec.upto setPlacesSpec)) setPlacesUptoCard

/-- THE SECOND FORM's CARD OF 'quirelaw13.SetEnds'. -/
def setEndsUptoCard : Claim7 := { stood := { row := setEndsUptoRow, standIns := [], harness := (true, "f5f3648db3423ee77fe516fad17d67c653637020e24511606989da23156ad583"), looks := false }, kinds := [], alts := [], laidByText := true, laidKinds := [.listed, .data], laidTests := true, laidLooks := .later }
def SetEndsUptoCardSaid : Prop := Claim7.holds Tryz.pinned (.plain (OpenSpec.upto setEndsSpec)) setEndsUptoCard

/-- THE SECOND FORM's CARD OF 'quirelaw12.LeastKnown'. -/
def leastKnownUptoCard : Claim7 := { stood := { row := leastKnownUptoRow, standIns := [], harness := (true, "f5f3648db3423ee77fe516fad17d67c653637020e24511606989da23156ad583"), looks := false }, kinds := [], alts := [], laidByText := true, laidKinds := [.listed, .data], laidTests := true, laidLooks := .later }
def LeastKnownUptoCardSaid : Prop := Claim7.holds Tryz.pinned (.plain (OpenSpec.upto leastKnownSpec)) leastKnownUptoCard
end Rows
end Go.Proofs.YtlohmlkafemifaaGreatDoor
