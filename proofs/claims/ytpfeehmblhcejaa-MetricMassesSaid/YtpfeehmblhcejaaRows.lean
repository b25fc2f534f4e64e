/-
  No cell of these rows narrows 'for every input' (looked for: loops, veiled, ifaces, maps, wideKeys, modest, calm, conditions, laid).
  DERIVED. THE GIVEN ROWS OF THIS SEAT. 6 by the template 'for every input the law returns true; each argument reads behind the call as it read before'; 0 by the template 'total and deterministic' (their statements: YtpfeehmblhcejaaTotals.lean).
  GIVEN WITH THE SEED: the statements are not yours to turn. If you find one false, say at which input.
  Laid BY PROGRAM, IN A SANDBOX (cutbox-rows.mjs): the forced cells as the released guide's own fill.sh prints them over the translation b96320665adc52c4… (all of the seat's roots in one cut). By AI agents, Wed Nov 11 2026. No macro, syntax, notation, axiom, sorry.
-/
import Derived.Test.YtpfeehmblhcejaaChecked
import GoSem.Claim
import GoSem.ClaimJoined
import GoSem.ClaimMapViews
import Derived.JoinedTies
import Derived.KernelRfl
namespace Go.Proofs.Ytpfeehmblhcejaa
/- THE CELL 'sum', in the pinned program and in every row, IS THE sha256 OF THE DUMP (.gsa) THAT YtpfeehmblhcejaaProg.lean LOADS. Nothing in Lean hashes anything: it is a label: what it is worth is what the hold of that sum in a sandbox is worth. -/
noncomputable def Try.pinned : Pinned := { name := "ytpfeehmblhcejaa", sum := "b96320665adc52c49ffbd34abd99edcc6532706a930bb045d67fca9d162f1ff9", checked := Try.checked }
namespace Rows
def none {H : Type} : Left H := { results := [], args := [] }

/-- 'quirelaw07.MetricMasses': WHATEVER THE INPUT: true; the input reads as it did. -/
def metricMassesSpec : ChangeSpec := { name := "metricMasses", fn := fun _ => fun
  | [d] => { results := [.lit (.bool true)], args := [d] }
  | _ => none }
def metricMassesRow : OpenClaim := { program := "ytpfeehmblhcejaa", sum := "b96320665adc52c49ffbd34abd99edcc6532706a930bb045d67fca9d162f1ff9", func := "quire/quirelaw07.MetricMasses", spec := "metricMasses", inPlace := ["internal/bytealg.IndexByteString", "internal/bytealg.CountString", "internal/bytealg.IndexString"], unfollowed := true, recurses := true, named := ["internal/bytealg.MaxLen"], apart := false }
def MetricMassesSaid : Prop := metricMassesRow.holds Try.pinned (OpenSpec.ofChange metricMassesSpec)

/-- ITS FALSE NEIGHBOUR: 'it returns false'. Refute it at one input. -/
def metricMassesWrong : ChangeSpec := { name := "metricMasses", fn := fun _ => fun
  | [d] => { results := [.lit (.bool false)], args := [d] }
  | _ => none }
def MetricMassesWrongFalsely : Prop := metricMassesRow.holds Try.pinned (OpenSpec.ofChange metricMassesWrong)

/-- 'quirelaw07.MetricTells': WHATEVER THE INPUT: true; the input reads as it did. -/
def metricTellsSpec : ChangeSpec := { name := "metricTells", fn := fun _ => fun
  | [d1, d2, d3, d4] => { results := [.lit (.bool true)], args := [d1, d2, d3, d4] }
  | _ => none }
def metricTellsRow : OpenClaim := { program := "ytpfeehmblhcejaa", sum := "b96320665adc52c49ffbd34abd99edcc6532706a930bb045d67fca9d162f1ff9", func := "quire/quirelaw07.MetricTells", spec := "metricTells", inPlace := ["internal/bytealg.IndexByteString", "internal/bytealg.CountString", "internal/bytealg.IndexString"], unfollowed := true, recurses := true, named := ["internal/bytealg.MaxLen"], apart := false }
def MetricTellsSaid : Prop := metricTellsRow.holds Try.pinned (OpenSpec.ofChange metricTellsSpec)

/-- ITS FALSE NEIGHBOUR: 'it returns false'. Refute it at one input. -/
def metricTellsWrong : ChangeSpec := { name := "metricTells", fn := fun _ => fun
  | [d1, d2, d3, d4] => { results := [.lit (.bool false)], args := [d1, d2, d3, d4] }
  | _ => none }
def MetricTellsWrongFalsely : Prop := metricTellsRow.holds Try.pinned (OpenSpec.ofChange metricTellsWrong)

/-- 'quirelaw07.MetricNatural': WHATEVER THE INPUT: true; the input reads as it did. -/
def metricNaturalSpec : ChangeSpec := { name := "metricNatural", fn := fun _ => fun
  | [d1, d2, d3] => { results := [.lit (.bool true)], args := [d1, d2, d3] }
  | _ => none }
def metricNaturalRow : OpenClaim := { program := "ytpfeehmblhcejaa", sum := "b96320665adc52c49ffbd34abd99edcc6532706a930bb045d67fca9d162f1ff9", func := "quire/quirelaw07.MetricNatural", spec := "metricNatural", inPlace := ["internal/bytealg.IndexByteString", "internal/bytealg.CountString", "internal/bytealg.IndexString"], unfollowed := true, recurses := true, named := ["internal/bytealg.MaxLen"], apart := false }
def MetricNaturalSaid : Prop := metricNaturalRow.holds Try.pinned (OpenSpec.ofChange metricNaturalSpec)

/-- ITS FALSE NEIGHBOUR: 'it returns false'. Refute it at one input. -/
def metricNaturalWrong : ChangeSpec := { name := "metricNatural", fn := fun _ => fun
  | [d1, d2, d3] => { results := [.lit (.bool false)], args := [d1, d2, d3] }
  | _ => none }
def MetricNaturalWrongFalsely : Prop := metricNaturalRow.holds Try.pinned (OpenSpec.ofChange metricNaturalWrong)

/-- 'quirelaw07.MetricKnown': WHATEVER THE INPUT: true; the input reads as it did. -/
def metricKnownSpec : ChangeSpec := { name := "metricKnown", fn := fun _ => fun
  | [] => { results := [.lit (.bool true)], args := [] }
  | _ => none }
def metricKnownRow : OpenClaim := { program := "ytpfeehmblhcejaa", sum := "b96320665adc52c49ffbd34abd99edcc6532706a930bb045d67fca9d162f1ff9", func := "quire/quirelaw07.MetricKnown", spec := "metricKnown", inPlace := ["internal/bytealg.IndexByteString", "internal/bytealg.CountString", "internal/bytealg.IndexString"], unfollowed := true, recurses := true, named := ["internal/bytealg.MaxLen"], apart := false }
def MetricKnownSaid : Prop := metricKnownRow.holds Try.pinned (OpenSpec.ofChange metricKnownSpec)

/-- ITS FALSE NEIGHBOUR: 'it returns false'. Refute it at one input. -/
def metricKnownWrong : ChangeSpec := { name := "metricKnown", fn := fun _ => fun
  | [] => { results := [.lit (.bool false)], args := [] }
  | _ => none }
def MetricKnownWrongFalsely : Prop := metricKnownRow.holds Try.pinned (OpenSpec.ofChange metricKnownWrong)

/-- 'quirelaw07.MetricJoins': WHATEVER THE INPUT: true; the input reads as it did. -/
def metricJoinsSpec : ChangeSpec := { name := "metricJoins", fn := fun _ => fun
  | [d1, d2, d3, d4] => { results := [.lit (.bool true)], args := [d1, d2, d3, d4] }
  | _ => none }
def metricJoinsRow : OpenClaim := { program := "ytpfeehmblhcejaa", sum := "b96320665adc52c49ffbd34abd99edcc6532706a930bb045d67fca9d162f1ff9", func := "quire/quirelaw07.MetricJoins", spec := "metricJoins", inPlace := ["internal/bytealg.IndexByteString", "internal/bytealg.CountString", "internal/bytealg.IndexString"], unfollowed := true, recurses := true, named := ["internal/bytealg.MaxLen"], apart := false }
def MetricJoinsSaid : Prop := metricJoinsRow.holds Try.pinned (OpenSpec.ofChange metricJoinsSpec)

/-- ITS FALSE NEIGHBOUR: 'it returns false'. Refute it at one input. -/
def metricJoinsWrong : ChangeSpec := { name := "metricJoins", fn := fun _ => fun
  | [d1, d2, d3, d4] => { results := [.lit (.bool false)], args := [d1, d2, d3, d4] }
  | _ => none }
def MetricJoinsWrongFalsely : Prop := metricJoinsRow.holds Try.pinned (OpenSpec.ofChange metricJoinsWrong)

/-- 'quirelaw07.MetricPlain': WHATEVER THE INPUT: true; the input reads as it did. -/
def metricPlainSpec : ChangeSpec := { name := "metricPlain", fn := fun _ => fun
  | [d1, d2] => { results := [.lit (.bool true)], args := [d1, d2] }
  | _ => none }
def metricPlainRow : OpenClaim := { program := "ytpfeehmblhcejaa", sum := "b96320665adc52c49ffbd34abd99edcc6532706a930bb045d67fca9d162f1ff9", func := "quire/quirelaw07.MetricPlain", spec := "metricPlain", inPlace := ["internal/bytealg.IndexByteString", "internal/bytealg.CountString", "internal/bytealg.IndexString"], unfollowed := true, recurses := true, named := ["internal/bytealg.MaxLen"], apart := false }
def MetricPlainSaid : Prop := metricPlainRow.holds Try.pinned (OpenSpec.ofChange metricPlainSpec)

/-- ITS FALSE NEIGHBOUR: 'it returns false'. Refute it at one input. -/
def metricPlainWrong : ChangeSpec := { name := "metricPlain", fn := fun _ => fun
  | [d1, d2] => { results := [.lit (.bool false)], args := [d1, d2] }
  | _ => none }
def MetricPlainWrongFalsely : Prop := metricPlainRow.holds Try.pinned (OpenSpec.ofChange metricPlainWrong)

/- THE SECOND FORM. 'bulk': how many values and letters a reading holds, each counted each time it is reached (what is shared counts as often as it is met; a slice's spare places count too). A statement '..UptoSaid' is the law's where the arguments, and the package variables that the reading takes, are together of bulk at most 1048576: NARROWER than '..Said'. Prove '..Said' where nothing that the law and all that it calls make is longer than what came in: it says more and counts as full. Else prove '..UptoSaid'. A law counts once. -/
mutual
def uptoBulk {H : Type} : DataW H → Nat
  | .lit (.string bytes) => bytes.length + 1
  | .lit _ => 1
  | .nil => 1
  | .ptr d => uptoBulk d + 1
  | .slice elems spare => uptoBulkAll elems + uptoBulkAll spare + 1
  | .agg parts => uptoBulkAll parts + 1
  | .iface _ d => uptoBulk d + 1
  | .map entries => uptoBulkEntries entries + 1
  | .held _ => 1
def uptoBulkAll {H : Type} : List (DataW H) → Nat
  | [] => 0
  | d :: r => uptoBulk d + uptoBulkAll r
def uptoBulkEntries {H : Type} : List (Lit × DataW H) → Nat
  | [] => 0
  | x :: r => uptoBulkEntry x + uptoBulkEntries r
def uptoBulkEntry {H : Type} : Lit × DataW H → Nat
  | (.string bytes, d) => bytes.length + uptoBulk d + 1
  | (_, d) => uptoBulk d + 1
 end
def uptoSmall : (H : Type) → List (DataW H) → Bool := fun _ ds => decide (uptoBulkAll ds ≤ 1048576)
def OpenSpec.upto (s : _root_.Go.ChangeSpec) : _root_.Go.OpenSpec := { _root_.Go.OpenSpec.ofChange s with cond := some uptoSmall }

/-- 'quirelaw07.MetricMasses', WHERE WHAT IT READS IS OF BULK AT MOST 1048576: true; the input reads as it did. -/
def metricMassesUptoRow : OpenClaim := { program := "ytpfeehmblhcejaa", sum := "b96320665adc52c49ffbd34abd99edcc6532706a930bb045d67fca9d162f1ff9", func := "quire/quirelaw07.MetricMasses", spec := "metricMasses", inPlace := ["internal/bytealg.IndexByteString", "internal/bytealg.CountString", "internal/bytealg.IndexString"], unfollowed := true, recurses := true, named := ["internal/bytealg.MaxLen"], apart := false, narrowed := true }
def MetricMassesUptoSaid : Prop := metricMassesUptoRow.holds Try.pinned (OpenSpec.upto metricMassesSpec)

/-- 'quirelaw07.MetricTells', WHERE WHAT IT READS IS OF BULK AT MOST 1048576: true; the input reads as it did. -/
def metricTellsUptoRow : OpenClaim := { program := "ytpfeehmblhcejaa", sum := "b96320665adc52c49ffbd34abd99edcc6532706a930bb045d67fca9d162f1ff9", func := "quire/quirelaw07.MetricTells", spec := "metricTells", inPlace := ["internal/bytealg.IndexByteString", "internal/bytealg.CountString", "internal/bytealg.IndexString"], unfollowed := true, recurses := true, named := ["internal/bytealg.MaxLen"], apart := false, narrowed := true }
def MetricTellsUptoSaid : Prop := metricTellsUptoRow.holds Try.pinned (OpenSpec.upto metricTellsSpec)

/-- 'quirelaw07.MetricNatural', WHERE WHAT IT READS IS OF BULK AT MOST 1048576: true; the input reads as it did. -/
def metricNaturalUptoRow : OpenClaim := { program := "ytpfeehmblhcejaa", sum := "b96320665adc52c49ffbd34abd99edcc6532706a930bb045d67fca9d162f1ff9", func := "quire/quirelaw07.MetricNatural", spec := "metricNatural", inPlace := ["internal/bytealg.IndexByteString", "internal/bytealg.CountString", "internal/bytealg.IndexString"], unfollowed := true, recurses := true, named := ["internal/bytealg.MaxLen"], apart := false, narrowed := true }
def MetricNaturalUptoSaid : Prop := metricNaturalUptoRow.holds Try.pinned (OpenSpec.upto metricNaturalSpec)

/-- 'quirelaw07.MetricKnown', WHERE WHAT IT READS IS OF BULK AT MOST 1048576: true; the input reads as it did. -/
def metricKnownUptoRow : OpenClaim := { program := "ytpfeehmblhcejaa", sum := "b96320665adc52c49ffbd34abd99edcc6532706a930bb045d67fca9d162f1ff9", func := "quire/quirelaw07.MetricKnown", spec := "metricKnown", inPlace := ["internal/bytealg.IndexByteString", "internal/bytealg.CountString", "internal/bytealg.IndexString"], unfollowed := true, recurses := true, named := ["internal/bytealg.MaxLen"], apart := false, narrowed := true }
def MetricKnownUptoSaid : Prop := metricKnownUptoRow.holds Try.pinned (OpenSpec.upto metricKnownSpec)

/-- 'quirelaw07.MetricJoins', WHERE WHAT IT READS IS OF BULK AT MOST 1048576: true; the input reads as it did. -/
def metricJoinsUptoRow : OpenClaim := { program := "ytpfeehmblhcejaa", sum := "b96320665adc52c49ffbd34abd99edcc6532706a930bb045d67fca9d162f1ff9", func := "quire/quirelaw07.MetricJoins", spec := "metricJoins", inPlace := ["internal/bytealg.IndexByteString", "internal/bytealg.CountString", "internal/bytealg.IndexString"], unfollowed := true, recurses := true, named := ["internal/bytealg.MaxLen"], apart := false, narrowed := true }
def MetricJoinsUptoSaid : Prop := metricJoinsUptoRow.holds Try.pinned (OpenSpec.upto metricJoinsSpec)

/-- 'quirelaw07.MetricPlain', WHERE WHAT IT READS IS OF BULK AT MOST 1048576: true; the input reads as it did. -/
def metricPlainUptoRow : OpenClaim := { program := "ytpfeehmblhcejaa", sum := "b96320665adc52c49ffbd34abd99edcc6532706a930bb045d67fca9d162f1ff9", func := "quire/quirelaw07.MetricPlain", spec := "metricPlain", inPlace := ["internal/bytealg.IndexByteString", "internal/bytealg.CountString", "internal/bytealg.IndexString"], unfollowed := true, recurses := true, named := ["internal/bytealg.MaxLen"], apart := false, narrowed := true }
def MetricPlainUptoSaid : Prop := metricPlainUptoRow.holds Try.pinned (OpenSpec.upto metricPlainSpec)

end Rows
end Go.Proofs.Ytpfeehmblhcejaa
