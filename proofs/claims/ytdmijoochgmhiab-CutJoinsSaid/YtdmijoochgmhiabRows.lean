/-
  No cell of these rows narrows 'for every input' (looked for: loops, veiled, ifaces, maps, wideKeys, modest, calm, conditions, laid).
  DERIVED. THE GIVEN ROWS OF THIS SEAT. 8 by the template 'for every input the law returns true; each argument reads behind the call as it read before'; 0 by the template 'total and deterministic' (their statements: YtdmijoochgmhiabTotals.lean).
  GIVEN WITH THE SEED: the statements are not yours to turn. If you find one false, say at which input.
  Laid BY PROGRAM, IN A SANDBOX (cutbox-rows.mjs): the forced cells as the released guide's own fill.sh prints them over the translation bbde86d7518a1efc… (all of the seat's roots in one cut). By AI agents, Wed Nov 11 2026. No macro, syntax, notation, axiom, sorry.
-/
import Derived.Test.YtdmijoochgmhiabChecked
import GoSem.Claim
import GoSem.ClaimJoined
import GoSem.ClaimMapViews
import Derived.JoinedTies
import Derived.KernelRfl
namespace Go.Proofs.Ytdmijoochgmhiab
/- THE CELL 'sum', in the pinned program and in every row, IS THE sha256 OF THE DUMP (.gsa) THAT YtdmijoochgmhiabProg.lean LOADS. Nothing in Lean hashes anything: it is a label: what it is worth is what the hold of that sum in a sandbox is worth. -/
noncomputable def Try.pinned : Pinned := { name := "ytdmijoochgmhiab", sum := "bbde86d7518a1efc73c54595c6f99ec9bc31671d4ec0fd7c5ee4d2544cfb0e4e", checked := Try.checked }
namespace Rows
def none {H : Type} : Left H := { results := [], args := [] }

/-- 'wellspringlaw01.FieldLaws': WHATEVER THE INPUT: true; the input reads as it did. -/
def fieldLawsSpec : ChangeSpec := { name := "fieldLaws", fn := fun _ => fun
  | [d1, d2, d3] => { results := [.lit (.bool true)], args := [d1, d2, d3] }
  | _ => none }
def fieldLawsRow : OpenClaim := { program := "ytdmijoochgmhiab", sum := "bbde86d7518a1efc73c54595c6f99ec9bc31671d4ec0fd7c5ee4d2544cfb0e4e", func := "wellspring/wellspringlaw01.FieldLaws", spec := "fieldLaws", apart := false }
def FieldLawsSaid : Prop := fieldLawsRow.holds Try.pinned (OpenSpec.ofChange fieldLawsSpec)

/-- ITS FALSE NEIGHBOUR: 'it returns false'. Refute it at one input. -/
def fieldLawsWrong : ChangeSpec := { name := "fieldLaws", fn := fun _ => fun
  | [d1, d2, d3] => { results := [.lit (.bool false)], args := [d1, d2, d3] }
  | _ => none }
def FieldLawsWrongFalsely : Prop := fieldLawsRow.holds Try.pinned (OpenSpec.ofChange fieldLawsWrong)

/-- 'wellspringlaw01.FieldDivides': WHATEVER THE INPUT: true; the input reads as it did. -/
def fieldDividesSpec : ChangeSpec := { name := "fieldDivides", fn := fun _ => fun
  | [d1, d2, d3] => { results := [.lit (.bool true)], args := [d1, d2, d3] }
  | _ => none }
def fieldDividesRow : OpenClaim := { program := "ytdmijoochgmhiab", sum := "bbde86d7518a1efc73c54595c6f99ec9bc31671d4ec0fd7c5ee4d2544cfb0e4e", func := "wellspring/wellspringlaw01.FieldDivides", spec := "fieldDivides", apart := false }
def FieldDividesSaid : Prop := fieldDividesRow.holds Try.pinned (OpenSpec.ofChange fieldDividesSpec)

/-- ITS FALSE NEIGHBOUR: 'it returns false'. Refute it at one input. -/
def fieldDividesWrong : ChangeSpec := { name := "fieldDivides", fn := fun _ => fun
  | [d1, d2, d3] => { results := [.lit (.bool false)], args := [d1, d2, d3] }
  | _ => none }
def FieldDividesWrongFalsely : Prop := fieldDividesRow.holds Try.pinned (OpenSpec.ofChange fieldDividesWrong)

/-- 'wellspringlaw11.CutCuts': WHATEVER THE INPUT: true; the input reads as it did. -/
def cutCutsSpec : ChangeSpec := { name := "cutCuts", fn := fun _ => fun
  | [d1, d2, d3] => { results := [.lit (.bool true)], args := [d1, d2, d3] }
  | _ => none }
def cutCutsRow : OpenClaim := { program := "ytdmijoochgmhiab", sum := "bbde86d7518a1efc73c54595c6f99ec9bc31671d4ec0fd7c5ee4d2544cfb0e4e", func := "wellspring/wellspringlaw11.CutCuts", spec := "cutCuts", apart := false }
def CutCutsSaid : Prop := cutCutsRow.holds Try.pinned (OpenSpec.ofChange cutCutsSpec)

/-- ITS FALSE NEIGHBOUR: 'it returns false'. Refute it at one input. -/
def cutCutsWrong : ChangeSpec := { name := "cutCuts", fn := fun _ => fun
  | [d1, d2, d3] => { results := [.lit (.bool false)], args := [d1, d2, d3] }
  | _ => none }
def CutCutsWrongFalsely : Prop := cutCutsRow.holds Try.pinned (OpenSpec.ofChange cutCutsWrong)

/-- 'wellspringlaw11.CutJoins': WHATEVER THE INPUT: true; the input reads as it did. -/
def cutJoinsSpec : ChangeSpec := { name := "cutJoins", fn := fun _ => fun
  | [d1, d2, d3, d4] => { results := [.lit (.bool true)], args := [d1, d2, d3, d4] }
  | _ => none }
def cutJoinsRow : OpenClaim := { program := "ytdmijoochgmhiab", sum := "bbde86d7518a1efc73c54595c6f99ec9bc31671d4ec0fd7c5ee4d2544cfb0e4e", func := "wellspring/wellspringlaw11.CutJoins", spec := "cutJoins", apart := false }
def CutJoinsSaid : Prop := cutJoinsRow.holds Try.pinned (OpenSpec.ofChange cutJoinsSpec)

/-- ITS FALSE NEIGHBOUR: 'it returns false'. Refute it at one input. -/
def cutJoinsWrong : ChangeSpec := { name := "cutJoins", fn := fun _ => fun
  | [d1, d2, d3, d4] => { results := [.lit (.bool false)], args := [d1, d2, d3, d4] }
  | _ => none }
def CutJoinsWrongFalsely : Prop := cutJoinsRow.holds Try.pinned (OpenSpec.ofChange cutJoinsWrong)

/-- 'wellspringlaw13.HeadTells': WHATEVER THE INPUT: true; the input reads as it did. -/
def headTellsSpec : ChangeSpec := { name := "headTells", fn := fun _ => fun
  | [d1, d2] => { results := [.lit (.bool true)], args := [d1, d2] }
  | _ => none }
def headTellsRow : OpenClaim := { program := "ytdmijoochgmhiab", sum := "bbde86d7518a1efc73c54595c6f99ec9bc31671d4ec0fd7c5ee4d2544cfb0e4e", func := "wellspring/wellspringlaw13.HeadTells", spec := "headTells", apart := false }
def HeadTellsSaid : Prop := headTellsRow.holds Try.pinned (OpenSpec.ofChange headTellsSpec)

/-- ITS FALSE NEIGHBOUR: 'it returns false'. Refute it at one input. -/
def headTellsWrong : ChangeSpec := { name := "headTells", fn := fun _ => fun
  | [d1, d2] => { results := [.lit (.bool false)], args := [d1, d2] }
  | _ => none }
def HeadTellsWrongFalsely : Prop := headTellsRow.holds Try.pinned (OpenSpec.ofChange headTellsWrong)

/-- 'wellspringlaw13.HeadBack': WHATEVER THE INPUT: true; the input reads as it did. -/
def headBackSpec : ChangeSpec := { name := "headBack", fn := fun _ => fun
  | [d1, d2, d3] => { results := [.lit (.bool true)], args := [d1, d2, d3] }
  | _ => none }
def headBackRow : OpenClaim := { program := "ytdmijoochgmhiab", sum := "bbde86d7518a1efc73c54595c6f99ec9bc31671d4ec0fd7c5ee4d2544cfb0e4e", func := "wellspring/wellspringlaw13.HeadBack", spec := "headBack", apart := false }
def HeadBackSaid : Prop := headBackRow.holds Try.pinned (OpenSpec.ofChange headBackSpec)

/-- ITS FALSE NEIGHBOUR: 'it returns false'. Refute it at one input. -/
def headBackWrong : ChangeSpec := { name := "headBack", fn := fun _ => fun
  | [d1, d2, d3] => { results := [.lit (.bool false)], args := [d1, d2, d3] }
  | _ => none }
def HeadBackWrongFalsely : Prop := headBackRow.holds Try.pinned (OpenSpec.ofChange headBackWrong)

/-- 'wellspringlaw14.RowReads': WHATEVER THE INPUT: true; the input reads as it did. -/
def rowReadsSpec : ChangeSpec := { name := "rowReads", fn := fun _ => fun
  | [d1, d2, d3] => { results := [.lit (.bool true)], args := [d1, d2, d3] }
  | _ => none }
def rowReadsRow : OpenClaim := { program := "ytdmijoochgmhiab", sum := "bbde86d7518a1efc73c54595c6f99ec9bc31671d4ec0fd7c5ee4d2544cfb0e4e", func := "wellspring/wellspringlaw14.RowReads", spec := "rowReads", apart := false }
def RowReadsSaid : Prop := rowReadsRow.holds Try.pinned (OpenSpec.ofChange rowReadsSpec)

/-- ITS FALSE NEIGHBOUR: 'it returns false'. Refute it at one input. -/
def rowReadsWrong : ChangeSpec := { name := "rowReads", fn := fun _ => fun
  | [d1, d2, d3] => { results := [.lit (.bool false)], args := [d1, d2, d3] }
  | _ => none }
def RowReadsWrongFalsely : Prop := rowReadsRow.holds Try.pinned (OpenSpec.ofChange rowReadsWrong)

/-- 'wellspringlaw14.RowBack': WHATEVER THE INPUT: true; the input reads as it did. -/
def rowBackSpec : ChangeSpec := { name := "rowBack", fn := fun _ => fun
  | [d1, d2, d3] => { results := [.lit (.bool true)], args := [d1, d2, d3] }
  | _ => none }
def rowBackRow : OpenClaim := { program := "ytdmijoochgmhiab", sum := "bbde86d7518a1efc73c54595c6f99ec9bc31671d4ec0fd7c5ee4d2544cfb0e4e", func := "wellspring/wellspringlaw14.RowBack", spec := "rowBack", apart := false }
def RowBackSaid : Prop := rowBackRow.holds Try.pinned (OpenSpec.ofChange rowBackSpec)

/-- ITS FALSE NEIGHBOUR: 'it returns false'. Refute it at one input. -/
def rowBackWrong : ChangeSpec := { name := "rowBack", fn := fun _ => fun
  | [d1, d2, d3] => { results := [.lit (.bool false)], args := [d1, d2, d3] }
  | _ => none }
def RowBackWrongFalsely : Prop := rowBackRow.holds Try.pinned (OpenSpec.ofChange rowBackWrong)

/- THE SECOND FORM. 'bulk': how many values and letters a reading holds, each counted each time it is reached (what is shared counts as often as it is met; a slice's spare places count too). A statement '..UptoSaid' is the law's where the arguments, and the package variables that the reading takes, are together of bulk at most 1048576: NARROWER than '..Said'. Prove '..Said' where nothing that the law and all that it calls make is longer than what came in: it says more and counts as full. Else prove '..UptoSaid'. A law counts once. -/
mutual
def uptoBulk {H : Type} : DataW H → Nat
  | .lit (.string bytes) => bytes.length + 1
  | .lit _ => 1
  | .nil => 1
  | .ptr d => uptoBulk d + 1
  | .slice elems spare => uptoBulkAll elems + uptoBulkAll spare + 1
  | .agg parts => uptoBulkAll parts + 1
  | .iface _ d => uptoBulk d + 1
  | .map entries => uptoBulkEntries entries + 1
  | .held _ => 1
def uptoBulkAll {H : Type} : List (DataW H) → Nat
  | [] => 0
  | d :: r => uptoBulk d + uptoBulkAll r
def uptoBulkEntries {H : Type} : List (Lit × DataW H) → Nat
  | [] => 0
  | x :: r => uptoBulkEntry x + uptoBulkEntries r
def uptoBulkEntry {H : Type} : Lit × DataW H → Nat
  | (.string bytes, d) => bytes.length + uptoBulk d + 1
  | (_, d) => uptoBulk d + 1
 end
def uptoSmall : (H : Type) → List (DataW H) → Bool := fun _ ds => decide (uptoBulkAll ds ≤ 1048576)
def OpenSpec.upto (s : _root_.Go.ChangeSpec) : _root_.Go.OpenSpec := { _root_.Go.OpenSpec.ofChange s with cond := some uptoSmall }

/-- 'wellspringlaw01.FieldLaws', WHERE WHAT IT READS IS OF BULK AT MOST 1048576: true; the input reads as it did. -/
def fieldLawsUptoRow : OpenClaim := { program := "ytdmijoochgmhiab", sum := "bbde86d7518a1efc73c54595c6f99ec9bc31671d4ec0fd7c5ee4d2544cfb0e4e", func := "wellspring/wellspringlaw01.FieldLaws", spec := "fieldLaws", apart := false, narrowed := true }
def FieldLawsUptoSaid : Prop := fieldLawsUptoRow.holds Try.pinned (OpenSpec.upto fieldLawsSpec)

/-- 'wellspringlaw01.FieldDivides', WHERE WHAT IT READS IS OF BULK AT MOST 1048576: true; the input reads as it did. -/
def fieldDividesUptoRow : OpenClaim := { program := "ytdmijoochgmhiab", sum := "bbde86d7518a1efc73c54595c6f99ec9bc31671d4ec0fd7c5ee4d2544cfb0e4e", func := "wellspring/wellspringlaw01.FieldDivides", spec := "fieldDivides", apart := false, narrowed := true }
def FieldDividesUptoSaid : Prop := fieldDividesUptoRow.holds Try.pinned (OpenSpec.upto fieldDividesSpec)

/-- 'wellspringlaw11.CutCuts', WHERE WHAT IT READS IS OF BULK AT MOST 1048576: true; the input reads as it did. -/
def cutCutsUptoRow : OpenClaim := { program := "ytdmijoochgmhiab", sum := "bbde86d7518a1efc73c54595c6f99ec9bc31671d4ec0fd7c5ee4d2544cfb0e4e", func := "wellspring/wellspringlaw11.CutCuts", spec := "cutCuts", apart := false, narrowed := true }
def CutCutsUptoSaid : Prop := cutCutsUptoRow.holds Try.pinned (OpenSpec.upto cutCutsSpec)

/-- 'wellspringlaw11.CutJoins', WHERE WHAT IT READS IS OF BULK AT MOST 1048576: true; the input reads as it did. -/
def cutJoinsUptoRow : OpenClaim := { program := "ytdmijoochgmhiab", sum := "bbde86d7518a1efc73c54595c6f99ec9bc31671d4ec0fd7c5ee4d2544cfb0e4e", func := "wellspring/wellspringlaw11.CutJoins", spec := "cutJoins", apart := false, narrowed := true }
def CutJoinsUptoSaid : Prop := cutJoinsUptoRow.holds Try.pinned (OpenSpec.upto cutJoinsSpec)

/-- 'wellspringlaw13.HeadTells', WHERE WHAT IT READS IS OF BULK AT MOST 1048576: true; the input reads as it did. -/
def headTellsUptoRow : OpenClaim := { program := "ytdmijoochgmhiab", sum := "bbde86d7518a1efc73c54595c6f99ec9bc31671d4ec0fd7c5ee4d2544cfb0e4e", func := "wellspring/wellspringlaw13.HeadTells", spec := "headTells", apart := false, narrowed := true }
def HeadTellsUptoSaid : Prop := headTellsUptoRow.holds Try.pinned (OpenSpec.upto headTellsSpec)

/-- 'wellspringlaw13.HeadBack', WHERE WHAT IT READS IS OF BULK AT MOST 1048576: true; the input reads as it did. -/
def headBackUptoRow : OpenClaim := { program := "ytdmijoochgmhiab", sum := "bbde86d7518a1efc73c54595c6f99ec9bc31671d4ec0fd7c5ee4d2544cfb0e4e", func := "wellspring/wellspringlaw13.HeadBack", spec := "headBack", apart := false, narrowed := true }
def HeadBackUptoSaid : Prop := headBackUptoRow.holds Try.pinned (OpenSpec.upto headBackSpec)

/-- 'wellspringlaw14.RowReads', WHERE WHAT IT READS IS OF BULK AT MOST 1048576: true; the input reads as it did. -/
def rowReadsUptoRow : OpenClaim := { program := "ytdmijoochgmhiab", sum := "bbde86d7518a1efc73c54595c6f99ec9bc31671d4ec0fd7c5ee4d2544cfb0e4e", func := "wellspring/wellspringlaw14.RowReads", spec := "rowReads", apart := false, narrowed := true }
def RowReadsUptoSaid : Prop := rowReadsUptoRow.holds Try.pinned (OpenSpec.upto rowReadsSpec)

/-- 'wellspringlaw14.RowBack', WHERE WHAT IT READS IS OF BULK AT MOST 1048576: true; the input reads as it did. -/
def rowBackUptoRow : OpenClaim := { program := "ytdmijoochgmhiab", sum := "bbde86d7518a1efc73c54595c6f99ec9bc31671d4ec0fd7c5ee4d2544cfb0e4e", func := "wellspring/wellspringlaw14.RowBack", spec := "rowBack", apart := false, narrowed := true }
def RowBackUptoSaid : Prop := rowBackUptoRow.holds Try.pinned (OpenSpec.upto rowBackSpec)

end Rows
end Go.Proofs.Ytdmijoochgmhiab
