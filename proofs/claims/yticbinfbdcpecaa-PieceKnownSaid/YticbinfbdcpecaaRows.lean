/-
  No cell of these rows narrows 'for every input' (looked for: loops, veiled, ifaces, maps, wideKeys, modest, calm, conditions, laid).
  DERIVED. THE GIVEN ROWS OF THIS SEAT. 4 by the template 'for every input the law returns true; each argument reads behind the call as it read before'; 0 by the template 'total and deterministic' (their statements: YticbinfbdcpecaaTotals.lean).
  GIVEN WITH THE SEED: the statements are not yours to turn. If you find one false, say at which input.
  Laid BY PROGRAM, IN A SANDBOX (cutbox-rows.mjs): the forced cells as the released guide's own fill.sh prints them over the translation 5a127a2887d46d76… (all of the seat's roots in one cut). By AI agents, Wed Nov 11 2026. No macro, syntax, notation, axiom, sorry.
-/
import Derived.Test.YticbinfbdcpecaaChecked
import GoSem.Claim
import GoSem.ClaimJoined
import GoSem.ClaimMapViews
import Derived.JoinedTies
import Derived.KernelRfl
namespace Go.Proofs.Yticbinfbdcpecaa
/- THE CELL 'sum', in the pinned program and in every row, IS THE sha256 OF THE DUMP (.gsa) THAT YticbinfbdcpecaaProg.lean LOADS. Nothing in Lean hashes anything: it is a label: what it is worth is what the hold of that sum in a sandbox is worth. -/
noncomputable def Try.pinned : Pinned := { name := "yticbinfbdcpecaa", sum := "5a127a2887d46d7603d3d1623341bd56bafc7317673b39419d541d12eb254048", checked := Try.checked }
namespace Rows
def none {H : Type} : Left H := { results := [], args := [] }

/-- 'quirelaw01.PieceBack': WHATEVER THE INPUT: true; the input reads as it did. -/
def pieceBackSpec : ChangeSpec := { name := "pieceBack", fn := fun _ => fun
  | [d1, d2, d3, d4] => { results := [.lit (.bool true)], args := [d1, d2, d3, d4] }
  | _ => none }
def pieceBackRow : OpenClaim := { program := "yticbinfbdcpecaa", sum := "5a127a2887d46d7603d3d1623341bd56bafc7317673b39419d541d12eb254048", func := "quire/quirelaw01.PieceBack", spec := "pieceBack", inPlace := ["internal/abi.NoEscape"], unfollowed := true, recurses := true, apart := false }
def PieceBackSaid : Prop := pieceBackRow.holds Try.pinned (OpenSpec.ofChange pieceBackSpec)

/-- ITS FALSE NEIGHBOUR: 'it returns false'. Refute it at one input. -/
def pieceBackWrong : ChangeSpec := { name := "pieceBack", fn := fun _ => fun
  | [d1, d2, d3, d4] => { results := [.lit (.bool false)], args := [d1, d2, d3, d4] }
  | _ => none }
def PieceBackWrongFalsely : Prop := pieceBackRow.holds Try.pinned (OpenSpec.ofChange pieceBackWrong)

/-- 'quirelaw01.PieceFull': WHATEVER THE INPUT: true; the input reads as it did. -/
def pieceFullSpec : ChangeSpec := { name := "pieceFull", fn := fun _ => fun
  | [d1, d2, d3] => { results := [.lit (.bool true)], args := [d1, d2, d3] }
  | _ => none }
def pieceFullRow : OpenClaim := { program := "yticbinfbdcpecaa", sum := "5a127a2887d46d7603d3d1623341bd56bafc7317673b39419d541d12eb254048", func := "quire/quirelaw01.PieceFull", spec := "pieceFull", inPlace := ["internal/abi.NoEscape", "internal/bytealg.MakeNoZero"], unfollowed := true, recurses := true, apart := false }
def PieceFullSaid : Prop := pieceFullRow.holds Try.pinned (OpenSpec.ofChange pieceFullSpec)

/-- ITS FALSE NEIGHBOUR: 'it returns false'. Refute it at one input. -/
def pieceFullWrong : ChangeSpec := { name := "pieceFull", fn := fun _ => fun
  | [d1, d2, d3] => { results := [.lit (.bool false)], args := [d1, d2, d3] }
  | _ => none }
def PieceFullWrongFalsely : Prop := pieceFullRow.holds Try.pinned (OpenSpec.ofChange pieceFullWrong)

/-- 'quirelaw01.PieceNone': WHATEVER THE INPUT: true; the input reads as it did. -/
def pieceNoneSpec : ChangeSpec := { name := "pieceNone", fn := fun _ => fun
  | [d1, d2] => { results := [.lit (.bool true)], args := [d1, d2] }
  | _ => none }
def pieceNoneRow : OpenClaim := { program := "yticbinfbdcpecaa", sum := "5a127a2887d46d7603d3d1623341bd56bafc7317673b39419d541d12eb254048", func := "quire/quirelaw01.PieceNone", spec := "pieceNone", inPlace := ["internal/abi.NoEscape", "internal/bytealg.IndexByteString", "internal/bytealg.CountString", "internal/bytealg.IndexString"], unfollowed := true, recurses := true, named := ["internal/bytealg.MaxLen"], apart := false }
def PieceNoneSaid : Prop := pieceNoneRow.holds Try.pinned (OpenSpec.ofChange pieceNoneSpec)

/-- ITS FALSE NEIGHBOUR: 'it returns false'. Refute it at one input. -/
def pieceNoneWrong : ChangeSpec := { name := "pieceNone", fn := fun _ => fun
  | [d1, d2] => { results := [.lit (.bool false)], args := [d1, d2] }
  | _ => none }
def PieceNoneWrongFalsely : Prop := pieceNoneRow.holds Try.pinned (OpenSpec.ofChange pieceNoneWrong)

/-- 'quirelaw01.PieceKnown': WHATEVER THE INPUT: true; the input reads as it did. -/
def pieceKnownSpec : ChangeSpec := { name := "pieceKnown", fn := fun _ => fun
  | [] => { results := [.lit (.bool true)], args := [] }
  | _ => none }
def pieceKnownRow : OpenClaim := { program := "yticbinfbdcpecaa", sum := "5a127a2887d46d7603d3d1623341bd56bafc7317673b39419d541d12eb254048", func := "quire/quirelaw01.PieceKnown", spec := "pieceKnown", inPlace := ["internal/abi.NoEscape", "internal/bytealg.MakeNoZero", "internal/bytealg.IndexByteString", "internal/bytealg.CountString", "internal/bytealg.IndexString"], unfollowed := true, recurses := true, named := ["internal/bytealg.MaxLen"], apart := false }
def PieceKnownSaid : Prop := pieceKnownRow.holds Try.pinned (OpenSpec.ofChange pieceKnownSpec)

/-- ITS FALSE NEIGHBOUR: 'it returns false'. Refute it at one input. -/
def pieceKnownWrong : ChangeSpec := { name := "pieceKnown", fn := fun _ => fun
  | [] => { results := [.lit (.bool false)], args := [] }
  | _ => none }
def PieceKnownWrongFalsely : Prop := pieceKnownRow.holds Try.pinned (OpenSpec.ofChange pieceKnownWrong)

/- THE SECOND FORM. 'bulk': how many values and letters a reading holds, each counted each time it is reached (what is shared counts as often as it is met; a slice's spare places count too). A statement '..UptoSaid' is the law's where the arguments, and the package variables that the reading takes, are together of bulk at most 1048576: NARROWER than '..Said'. Prove '..Said' where nothing that the law and all that it calls make is longer than what came in: it says more and counts as full. Else prove '..UptoSaid'. A law counts once. -/
mutual
def uptoBulk {H : Type} : DataW H → Nat
  | .lit (.string bytes) => bytes.length + 1
  | .lit _ => 1
  | .nil => 1
  | .ptr d => uptoBulk d + 1
  | .slice elems spare => uptoBulkAll elems + uptoBulkAll spare + 1
  | .agg parts => uptoBulkAll parts + 1
  | .iface _ d => uptoBulk d + 1
  | .map entries => uptoBulkEntries entries + 1
  | .held _ => 1
def uptoBulkAll {H : Type} : List (DataW H) → Nat
  | [] => 0
  | d :: r => uptoBulk d + uptoBulkAll r
def uptoBulkEntries {H : Type} : List (Lit × DataW H) → Nat
  | [] => 0
  | x :: r => uptoBulkEntry x + uptoBulkEntries r
def uptoBulkEntry {H : Type} : Lit × DataW H → Nat
  | (.string bytes, d) => bytes.length + uptoBulk d + 1
  | (_, d) => uptoBulk d + 1
 end
def uptoSmall : (H : Type) → List (DataW H) → Bool := fun _ ds => decide (uptoBulkAll ds ≤ 1048576)
def OpenSpec.upto (s : _root_.Go.ChangeSpec) : _root_.Go.OpenSpec := { _root_.Go.OpenSpec.ofChange s with cond := some uptoSmall }

/-- 'quirelaw01.PieceBack', WHERE WHAT IT READS IS OF BULK AT MOST 1048576: true; the input reads as it did. -/
def pieceBackUptoRow : OpenClaim := { program := "yticbinfbdcpecaa", sum := "5a127a2887d46d7603d3d1623341bd56bafc7317673b39419d541d12eb254048", func := "quire/quirelaw01.PieceBack", spec := "pieceBack", inPlace := ["internal/abi.NoEscape"], unfollowed := true, recurses := true, apart := false, narrowed := true }
def PieceBackUptoSaid : Prop := pieceBackUptoRow.holds Try.pinned (OpenSpec.upto pieceBackSpec)

/-- 'quirelaw01.PieceFull', WHERE WHAT IT READS IS OF BULK AT MOST 1048576: true; the input reads as it did. -/
def pieceFullUptoRow : OpenClaim := { program := "yticbinfbdcpecaa", sum := "5a127a2887d46d7603d3d1623341bd56bafc7317673b39419d541d12eb254048", func := "quire/quirelaw01.PieceFull", spec := "pieceFull", inPlace := ["internal/abi.NoEscape", "internal/bytealg.MakeNoZero"], unfollowed := true, recurses := true, apart := false, narrowed := true }
def PieceFullUptoSaid : Prop := pieceFullUptoRow.holds Try.pinned (OpenSpec.upto pieceFullSpec)

/-- 'quirelaw01.PieceNone', WHERE WHAT IT READS IS OF BULK AT MOST 1048576: true; the input reads as it did. -/
def pieceNoneUptoRow : OpenClaim := { program := "yticbinfbdcpecaa", sum := "5a127a2887d46d7603d3d1623341bd56bafc7317673b39419d541d12eb254048", func := "quire/quirelaw01.PieceNone", spec := "pieceNone", inPlace := ["internal/abi.NoEscape", "internal/bytealg.IndexByteString", "internal/bytealg.CountString", "internal/bytealg.IndexString"], unfollowed := true, recurses := true, named := ["internal/bytealg.MaxLen"], apart := false, narrowed := true }
def PieceNoneUptoSaid : Prop := pieceNoneUptoRow.holds Try.pinned (OpenSpec.upto pieceNoneSpec)

/-- 'quirelaw01.PieceKnown', WHERE WHAT IT READS IS OF BULK AT MOST 1048576: true; the input reads as it did. -/
def pieceKnownUptoRow : OpenClaim := { program := "yticbinfbdcpecaa", sum := "5a127a2887d46d7603d3d1623341bd56bafc7317673b39419d541d12eb254048", func := "quire/quirelaw01.PieceKnown", spec := "pieceKnown", inPlace := ["internal/abi.NoEscape", "internal/bytealg.MakeNoZero", "internal/bytealg.IndexByteString", "internal/bytealg.CountString", "internal/bytealg.IndexString"], unfollowed := true, recurses := true, named := ["internal/bytealg.MaxLen"], apart := false, narrowed := true }
def PieceKnownUptoSaid : Prop := pieceKnownUptoRow.holds Try.pinned (OpenSpec.upto pieceKnownSpec)

end Rows
end Go.Proofs.Yticbinfbdcpecaa
