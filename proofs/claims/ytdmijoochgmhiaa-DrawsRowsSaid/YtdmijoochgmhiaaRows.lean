/-
  No cell of these rows narrows 'for every input' (looked for: loops, veiled, ifaces, maps, wideKeys, modest, calm, conditions, laid).
  DERIVED. THE GIVEN ROWS OF THIS SEAT. 8 by the template 'for every input the law returns true; each argument reads behind the call as it read before'; 0 by the template 'total and deterministic' (their statements: YtdmijoochgmhiaaTotals.lean).
  GIVEN WITH THE SEED: the statements are not yours to turn. If you find one false, say at which input.
  Laid BY PROGRAM, IN A SANDBOX (cutbox-rows.mjs): the forced cells as the released guide's own fill.sh prints them over the translation af985a50e7897bfc… (all of the seat's roots in one cut). By AI agents, Wed Nov 11 2026. No macro, syntax, notation, axiom, sorry.
-/
import Derived.Test.YtdmijoochgmhiaaChecked
import GoSem.Claim
import GoSem.ClaimJoined
import GoSem.ClaimMapViews
import Derived.JoinedTies
import Derived.KernelRfl
namespace Go.Proofs.Ytdmijoochgmhiaa
/- THE CELL 'sum', in the pinned program and in every row, IS THE sha256 OF THE DUMP (.gsa) THAT YtdmijoochgmhiaaProg.lean LOADS. Nothing in Lean hashes anything: it is a label: what it is worth is what the hold of that sum in a sandbox is worth. -/
noncomputable def Try.pinned : Pinned := { name := "ytdmijoochgmhiaa", sum := "af985a50e7897bfcb5611cdb2c51fdef36b5e4ab28e0b15ff12b14bfd7ed14e1", checked := Try.checked }
namespace Rows
def none {H : Type} : Left H := { results := [], args := [] }

/-- 'wellspringlaw05.MixApart': WHATEVER THE INPUT: true; the input reads as it did. -/
def mixApartSpec : ChangeSpec := { name := "mixApart", fn := fun _ => fun
  | [d1, d2, d3] => { results := [.lit (.bool true)], args := [d1, d2, d3] }
  | _ => none }
def mixApartRow : OpenClaim := { program := "ytdmijoochgmhiaa", sum := "af985a50e7897bfcb5611cdb2c51fdef36b5e4ab28e0b15ff12b14bfd7ed14e1", func := "wellspring/wellspringlaw05.MixApart", spec := "mixApart", apart := false }
def MixApartSaid : Prop := mixApartRow.holds Try.pinned (OpenSpec.ofChange mixApartSpec)

/-- ITS FALSE NEIGHBOUR: 'it returns false'. Refute it at one input. -/
def mixApartWrong : ChangeSpec := { name := "mixApart", fn := fun _ => fun
  | [d1, d2, d3] => { results := [.lit (.bool false)], args := [d1, d2, d3] }
  | _ => none }
def MixApartWrongFalsely : Prop := mixApartRow.holds Try.pinned (OpenSpec.ofChange mixApartWrong)

/-- 'wellspringlaw05.MixTells': WHATEVER THE INPUT: true; the input reads as it did. -/
def mixTellsSpec : ChangeSpec := { name := "mixTells", fn := fun _ => fun
  | [d1, d2] => { results := [.lit (.bool true)], args := [d1, d2] }
  | _ => none }
def mixTellsRow : OpenClaim := { program := "ytdmijoochgmhiaa", sum := "af985a50e7897bfcb5611cdb2c51fdef36b5e4ab28e0b15ff12b14bfd7ed14e1", func := "wellspring/wellspringlaw05.MixTells", spec := "mixTells", apart := false }
def MixTellsSaid : Prop := mixTellsRow.holds Try.pinned (OpenSpec.ofChange mixTellsSpec)

/-- ITS FALSE NEIGHBOUR: 'it returns false'. Refute it at one input. -/
def mixTellsWrong : ChangeSpec := { name := "mixTells", fn := fun _ => fun
  | [d1, d2] => { results := [.lit (.bool false)], args := [d1, d2] }
  | _ => none }
def MixTellsWrongFalsely : Prop := mixTellsRow.holds Try.pinned (OpenSpec.ofChange mixTellsWrong)

/-- 'wellspringlaw05.MixNone': WHATEVER THE INPUT: true; the input reads as it did. -/
def mixNoneSpec : ChangeSpec := { name := "mixNone", fn := fun _ => fun
  | [] => { results := [.lit (.bool true)], args := [] }
  | _ => none }
def mixNoneRow : OpenClaim := { program := "ytdmijoochgmhiaa", sum := "af985a50e7897bfcb5611cdb2c51fdef36b5e4ab28e0b15ff12b14bfd7ed14e1", func := "wellspring/wellspringlaw05.MixNone", spec := "mixNone", apart := false }
def MixNoneSaid : Prop := mixNoneRow.holds Try.pinned (OpenSpec.ofChange mixNoneSpec)

/-- ITS FALSE NEIGHBOUR: 'it returns false'. Refute it at one input. -/
def mixNoneWrong : ChangeSpec := { name := "mixNone", fn := fun _ => fun
  | [] => { results := [.lit (.bool false)], args := [] }
  | _ => none }
def MixNoneWrongFalsely : Prop := mixNoneRow.holds Try.pinned (OpenSpec.ofChange mixNoneWrong)

/-- 'wellspringlaw16.DrawsTakes': WHATEVER THE INPUT: true; the input reads as it did. -/
def drawsTakesSpec : ChangeSpec := { name := "drawsTakes", fn := fun _ => fun
  | [d1, d2] => { results := [.lit (.bool true)], args := [d1, d2] }
  | _ => none }
def drawsTakesRow : OpenClaim := { program := "ytdmijoochgmhiaa", sum := "af985a50e7897bfcb5611cdb2c51fdef36b5e4ab28e0b15ff12b14bfd7ed14e1", func := "wellspring/wellspringlaw16.DrawsTakes", spec := "drawsTakes", inPlace := ["internal/bytealg.MakeNoZero"], apart := false }
def DrawsTakesSaid : Prop := drawsTakesRow.holds Try.pinned (OpenSpec.ofChange drawsTakesSpec)

/-- ITS FALSE NEIGHBOUR: 'it returns false'. Refute it at one input. -/
def drawsTakesWrong : ChangeSpec := { name := "drawsTakes", fn := fun _ => fun
  | [d1, d2] => { results := [.lit (.bool false)], args := [d1, d2] }
  | _ => none }
def DrawsTakesWrongFalsely : Prop := drawsTakesRow.holds Try.pinned (OpenSpec.ofChange drawsTakesWrong)

/-- 'wellspringlaw01.FieldReckons': WHATEVER THE INPUT: true; the input reads as it did. -/
def fieldReckonsSpec : ChangeSpec := { name := "fieldReckons", fn := fun _ => fun
  | [d] => { results := [.lit (.bool true)], args := [d] }
  | _ => none }
def fieldReckonsRow : OpenClaim := { program := "ytdmijoochgmhiaa", sum := "af985a50e7897bfcb5611cdb2c51fdef36b5e4ab28e0b15ff12b14bfd7ed14e1", func := "wellspring/wellspringlaw01.FieldReckons", spec := "fieldReckons", apart := false }
def FieldReckonsSaid : Prop := fieldReckonsRow.holds Try.pinned (OpenSpec.ofChange fieldReckonsSpec)

/-- ITS FALSE NEIGHBOUR: 'it returns false'. Refute it at one input. -/
def fieldReckonsWrong : ChangeSpec := { name := "fieldReckons", fn := fun _ => fun
  | [d] => { results := [.lit (.bool false)], args := [d] }
  | _ => none }
def FieldReckonsWrongFalsely : Prop := fieldReckonsRow.holds Try.pinned (OpenSpec.ofChange fieldReckonsWrong)

/-- 'wellspringlaw05.MixRows': WHATEVER THE INPUT: true; the input reads as it did. -/
def mixRowsSpec : ChangeSpec := { name := "mixRows", fn := fun _ => fun
  | [d1, d2, d3] => { results := [.lit (.bool true)], args := [d1, d2, d3] }
  | _ => none }
def mixRowsRow : OpenClaim := { program := "ytdmijoochgmhiaa", sum := "af985a50e7897bfcb5611cdb2c51fdef36b5e4ab28e0b15ff12b14bfd7ed14e1", func := "wellspring/wellspringlaw05.MixRows", spec := "mixRows", apart := false }
def MixRowsSaid : Prop := mixRowsRow.holds Try.pinned (OpenSpec.ofChange mixRowsSpec)

/-- ITS FALSE NEIGHBOUR: 'it returns false'. Refute it at one input. -/
def mixRowsWrong : ChangeSpec := { name := "mixRows", fn := fun _ => fun
  | [d1, d2, d3] => { results := [.lit (.bool false)], args := [d1, d2, d3] }
  | _ => none }
def MixRowsWrongFalsely : Prop := mixRowsRow.holds Try.pinned (OpenSpec.ofChange mixRowsWrong)

/-- 'wellspringlaw01.FieldPowers': WHATEVER THE INPUT: true; the input reads as it did. -/
def fieldPowersSpec : ChangeSpec := { name := "fieldPowers", fn := fun _ => fun
  | [d1, d2] => { results := [.lit (.bool true)], args := [d1, d2] }
  | _ => none }
def fieldPowersRow : OpenClaim := { program := "ytdmijoochgmhiaa", sum := "af985a50e7897bfcb5611cdb2c51fdef36b5e4ab28e0b15ff12b14bfd7ed14e1", func := "wellspring/wellspringlaw01.FieldPowers", spec := "fieldPowers", apart := false }
def FieldPowersSaid : Prop := fieldPowersRow.holds Try.pinned (OpenSpec.ofChange fieldPowersSpec)

/-- ITS FALSE NEIGHBOUR: 'it returns false'. Refute it at one input. -/
def fieldPowersWrong : ChangeSpec := { name := "fieldPowers", fn := fun _ => fun
  | [d1, d2] => { results := [.lit (.bool false)], args := [d1, d2] }
  | _ => none }
def FieldPowersWrongFalsely : Prop := fieldPowersRow.holds Try.pinned (OpenSpec.ofChange fieldPowersWrong)

/-- 'wellspringlaw16.DrawsRows': WHATEVER THE INPUT: true; the input reads as it did. -/
def drawsRowsSpec : ChangeSpec := { name := "drawsRows", fn := fun _ => fun
  | [d1, d2] => { results := [.lit (.bool true)], args := [d1, d2] }
  | _ => none }
def drawsRowsRow : OpenClaim := { program := "ytdmijoochgmhiaa", sum := "af985a50e7897bfcb5611cdb2c51fdef36b5e4ab28e0b15ff12b14bfd7ed14e1", func := "wellspring/wellspringlaw16.DrawsRows", spec := "drawsRows", inPlace := ["internal/bytealg.MakeNoZero"], apart := false }
def DrawsRowsSaid : Prop := drawsRowsRow.holds Try.pinned (OpenSpec.ofChange drawsRowsSpec)

/-- ITS FALSE NEIGHBOUR: 'it returns false'. Refute it at one input. -/
def drawsRowsWrong : ChangeSpec := { name := "drawsRows", fn := fun _ => fun
  | [d1, d2] => { results := [.lit (.bool false)], args := [d1, d2] }
  | _ => none }
def DrawsRowsWrongFalsely : Prop := drawsRowsRow.holds Try.pinned (OpenSpec.ofChange drawsRowsWrong)

/- THE SECOND FORM. 'bulk': how many values and letters a reading holds, each counted each time it is reached (what is shared counts as often as it is met; a slice's spare places count too). A statement '..UptoSaid' is the law's where the arguments, and the package variables that the reading takes, are together of bulk at most 1048576: NARROWER than '..Said'. Prove '..Said' where nothing that the law and all that it calls make is longer than what came in: it says more and counts as full. Else prove '..UptoSaid'. A law counts once. -/
mutual
def uptoBulk {H : Type} : DataW H → Nat
  | .lit (.string bytes) => bytes.length + 1
  | .lit _ => 1
  | .nil => 1
  | .ptr d => uptoBulk d + 1
  | .slice elems spare => uptoBulkAll elems + uptoBulkAll spare + 1
  | .agg parts => uptoBulkAll parts + 1
  | .iface _ d => uptoBulk d + 1
  | .map entries => uptoBulkEntries entries + 1
  | .held _ => 1
def uptoBulkAll {H : Type} : List (DataW H) → Nat
  | [] => 0
  | d :: r => uptoBulk d + uptoBulkAll r
def uptoBulkEntries {H : Type} : List (Lit × DataW H) → Nat
  | [] => 0
  | x :: r => uptoBulkEntry x + uptoBulkEntries r
def uptoBulkEntry {H : Type} : Lit × DataW H → Nat
  | (.string bytes, d) => bytes.length + uptoBulk d + 1
  | (_, d) => uptoBulk d + 1
 end
def uptoSmall : (H : Type) → List (DataW H) → Bool := fun _ ds => decide (uptoBulkAll ds ≤ 1048576)
def OpenSpec.upto (s : _root_.Go.ChangeSpec) : _root_.Go.OpenSpec := { _root_.Go.OpenSpec.ofChange s with cond := some uptoSmall }

/-- 'wellspringlaw05.MixApart', WHERE WHAT IT READS IS OF BULK AT MOST 1048576: true; the input reads as it did. -/
def mixApartUptoRow : OpenClaim := { program := "ytdmijoochgmhiaa", sum := "af985a50e7897bfcb5611cdb2c51fdef36b5e4ab28e0b15ff12b14bfd7ed14e1", func := "wellspring/wellspringlaw05.MixApart", spec := "mixApart", apart := false, narrowed := true }
def MixApartUptoSaid : Prop := mixApartUptoRow.holds Try.pinned (OpenSpec.upto mixApartSpec)

/-- 'wellspringlaw05.MixTells', WHERE WHAT IT READS IS OF BULK AT MOST 1048576: true; the input reads as it did. -/
def mixTellsUptoRow : OpenClaim := { program := "ytdmijoochgmhiaa", sum := "af985a50e7897bfcb5611cdb2c51fdef36b5e4ab28e0b15ff12b14bfd7ed14e1", func := "wellspring/wellspringlaw05.MixTells", spec := "mixTells", apart := false, narrowed := true }
def MixTellsUptoSaid : Prop := mixTellsUptoRow.holds Try.pinned (OpenSpec.upto mixTellsSpec)

/-- 'wellspringlaw05.MixNone', WHERE WHAT IT READS IS OF BULK AT MOST 1048576: true; the input reads as it did. -/
def mixNoneUptoRow : OpenClaim := { program := "ytdmijoochgmhiaa", sum := "af985a50e7897bfcb5611cdb2c51fdef36b5e4ab28e0b15ff12b14bfd7ed14e1", func := "wellspring/wellspringlaw05.MixNone", spec := "mixNone", apart := false, narrowed := true }
def MixNoneUptoSaid : Prop := mixNoneUptoRow.holds Try.pinned (OpenSpec.upto mixNoneSpec)

/-- 'wellspringlaw16.DrawsTakes', WHERE WHAT IT READS IS OF BULK AT MOST 1048576: true; the input reads as it did. -/
def drawsTakesUptoRow : OpenClaim := { program := "ytdmijoochgmhiaa", sum := "af985a50e7897bfcb5611cdb2c51fdef36b5e4ab28e0b15ff12b14bfd7ed14e1", func := "wellspring/wellspringlaw16.DrawsTakes", spec := "drawsTakes", inPlace := ["internal/bytealg.MakeNoZero"], apart := false, narrowed := true }
def DrawsTakesUptoSaid : Prop := drawsTakesUptoRow.holds Try.pinned (OpenSpec.upto drawsTakesSpec)

/-- 'wellspringlaw01.FieldReckons', WHERE WHAT IT READS IS OF BULK AT MOST 1048576: true; the input reads as it did. -/
def fieldReckonsUptoRow : OpenClaim := { program := "ytdmijoochgmhiaa", sum := "af985a50e7897bfcb5611cdb2c51fdef36b5e4ab28e0b15ff12b14bfd7ed14e1", func := "wellspring/wellspringlaw01.FieldReckons", spec := "fieldReckons", apart := false, narrowed := true }
def FieldReckonsUptoSaid : Prop := fieldReckonsUptoRow.holds Try.pinned (OpenSpec.upto fieldReckonsSpec)

/-- 'wellspringlaw05.MixRows', WHERE WHAT IT READS IS OF BULK AT MOST 1048576: true; the input reads as it did. -/
def mixRowsUptoRow : OpenClaim := { program := "ytdmijoochgmhiaa", sum := "af985a50e7897bfcb5611cdb2c51fdef36b5e4ab28e0b15ff12b14bfd7ed14e1", func := "wellspring/wellspringlaw05.MixRows", spec := "mixRows", apart := false, narrowed := true }
def MixRowsUptoSaid : Prop := mixRowsUptoRow.holds Try.pinned (OpenSpec.upto mixRowsSpec)

/-- 'wellspringlaw01.FieldPowers', WHERE WHAT IT READS IS OF BULK AT MOST 1048576: true; the input reads as it did. -/
def fieldPowersUptoRow : OpenClaim := { program := "ytdmijoochgmhiaa", sum := "af985a50e7897bfcb5611cdb2c51fdef36b5e4ab28e0b15ff12b14bfd7ed14e1", func := "wellspring/wellspringlaw01.FieldPowers", spec := "fieldPowers", apart := false, narrowed := true }
def FieldPowersUptoSaid : Prop := fieldPowersUptoRow.holds Try.pinned (OpenSpec.upto fieldPowersSpec)

/-- 'wellspringlaw16.DrawsRows', WHERE WHAT IT READS IS OF BULK AT MOST 1048576: true; the input reads as it did. -/
def drawsRowsUptoRow : OpenClaim := { program := "ytdmijoochgmhiaa", sum := "af985a50e7897bfcb5611cdb2c51fdef36b5e4ab28e0b15ff12b14bfd7ed14e1", func := "wellspring/wellspringlaw16.DrawsRows", spec := "drawsRows", inPlace := ["internal/bytealg.MakeNoZero"], apart := false, narrowed := true }
def DrawsRowsUptoSaid : Prop := drawsRowsUptoRow.holds Try.pinned (OpenSpec.upto drawsRowsSpec)

end Rows
end Go.Proofs.Ytdmijoochgmhiaa
