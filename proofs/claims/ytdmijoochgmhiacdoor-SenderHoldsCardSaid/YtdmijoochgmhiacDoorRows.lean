/-
  NARROWER THAN 'FOR EVERY INPUT', by the rows' own cells (each row's printed sentence says how): GateLets: laid · PacketBack: laid · SenderSends: laid · SenderSpent: laid · SenderHolds: laid.
  DERIVED. THE GIVEN ROWS OF THIS SEAT. 5 by the template 'for every input the law returns true; each argument reads behind the call as it read before'; 0 by the template 'total and deterministic' (their statements: YtdmijoochgmhiacDoorTotals.lean).
  GIVEN WITH THE SEED: the statements are not yours to turn. If you find one false, say at which input.
  Laid BY PROGRAM, IN A SANDBOX (cutbox-rows.mjs): the forced cells as the released guide's own fill.sh prints them over the translation 03c67887addd843e… (all of the seat's roots in one cut). By AI agents, Wed Nov 11 2026. No macro, syntax, notation, axiom, sorry.
-/
import Derived.Test.YtdmijoochgmhiacDoorChecked
import GoSem.Claim
import GoSem.ClaimJoined
import GoSem.ClaimMapViews
import Derived.JoinedTies
import Derived.KernelRfl
namespace Go.Proofs.YtdmijoochgmhiacDoor
/- THE CELL 'sum', in the pinned program and in every row, IS THE sha256 OF THE DUMP (.gsa) THAT YtdmijoochgmhiacDoorProg.lean LOADS. Nothing in Lean hashes anything: it is a label: what it is worth is what the hold of that sum in a sandbox is worth. -/
noncomputable def Tryd.pinned : Pinned := { name := "ytdmijoochgmhiacdoor", sum := "03c67887addd843e7d7ca3088d96b68c49b229c75d7f3c46af54f64b0461c31d", checked := Tryd.checked }
namespace Rows
def none {H : Type} : Left H := { results := [], args := [] }

/- WHAT THE LISTED PACKAGE-LEVEL VARIABLES READ AS WHEN THE CALL BEGINS. Each datum BY PROGRAM (the guide's laid-datum.mjs) off the statement by which the dump's own 'gosem.cut.vars' lays the variable. In a bare row this is a premise. The card (YtdmijoochgmhiacDoorCards.lean) ties it to the program's text. -/
def laid_wellspring_sum_halves {H : Type} : DataW H := .agg [.lit (.int .u32 0), .lit (.int .u32 498536548), .lit (.int .u32 997073096), .lit (.int .u32 651767980), .lit (.int .u32 1994146192), .lit (.int .u32 1802195444), .lit (.int .u32 1303535960), .lit (.int .u32 1342533948), .lit (.int .u32 3988292384), .lit (.int .u32 4027552580), .lit (.int .u32 3604390888), .lit (.int .u32 3412177804), .lit (.int .u32 2607071920), .lit (.int .u32 2262029012), .lit (.int .u32 2685067896), .lit (.int .u32 3183342108)]

/-- 'wellspringlaw18.GateLets': WHATEVER THE INPUT: true; the input reads as it did. -/
def gateLetsSpec : ChangeSpec := { name := "gateLets", fn := fun _ => fun
  | [d1, d2] => { results := [.lit (.bool true)], args := [d1, d2] }
  | _ => none }
def gateLetsRow : OpenClaim := { program := "ytdmijoochgmhiacdoor", sum := "03c67887addd843e7d7ca3088d96b68c49b229c75d7f3c46af54f64b0461c31d", func := "wellspring/wellspringlaw18.GateLets", spec := "gateLets", named := ["wellspring/sum.halves"], apart := false, laid := [("wellspring/sum.halves", laid_wellspring_sum_halves)] }
def GateLetsSaid : Prop := gateLetsRow.holds Tryd.pinned (OpenSpec.ofChange gateLetsSpec)

/-- ITS FALSE NEIGHBOUR: 'it returns false'. Refute it at one input. -/
def gateLetsWrong : ChangeSpec := { name := "gateLets", fn := fun _ => fun
  | [d1, d2] => { results := [.lit (.bool false)], args := [d1, d2] }
  | _ => none }
def GateLetsWrongFalsely : Prop := gateLetsRow.holds Tryd.pinned (OpenSpec.ofChange gateLetsWrong)

/-- 'wellspringlaw15.PacketBack': WHATEVER THE INPUT: true; the input reads as it did. -/
def packetBackSpec : ChangeSpec := { name := "packetBack", fn := fun _ => fun
  | [d1, d2, d3, d4, d5] => { results := [.lit (.bool true)], args := [d1, d2, d3, d4, d5] }
  | _ => none }
def packetBackRow : OpenClaim := { program := "ytdmijoochgmhiacdoor", sum := "03c67887addd843e7d7ca3088d96b68c49b229c75d7f3c46af54f64b0461c31d", func := "wellspring/wellspringlaw15.PacketBack", spec := "packetBack", named := ["wellspring/sum.halves"], apart := false, laid := [("wellspring/sum.halves", laid_wellspring_sum_halves)] }
def PacketBackSaid : Prop := packetBackRow.holds Tryd.pinned (OpenSpec.ofChange packetBackSpec)

/-- ITS FALSE NEIGHBOUR: 'it returns false'. Refute it at one input. -/
def packetBackWrong : ChangeSpec := { name := "packetBack", fn := fun _ => fun
  | [d1, d2, d3, d4, d5] => { results := [.lit (.bool false)], args := [d1, d2, d3, d4, d5] }
  | _ => none }
def PacketBackWrongFalsely : Prop := packetBackRow.holds Tryd.pinned (OpenSpec.ofChange packetBackWrong)

/-- 'wellspringlaw17.SenderSends': WHATEVER THE INPUT: true; the input reads as it did. -/
def senderSendsSpec : ChangeSpec := { name := "senderSends", fn := fun _ => fun
  | [d1, d2, d3] => { results := [.lit (.bool true)], args := [d1, d2, d3] }
  | _ => none }
def senderSendsRow : OpenClaim := { program := "ytdmijoochgmhiacdoor", sum := "03c67887addd843e7d7ca3088d96b68c49b229c75d7f3c46af54f64b0461c31d", func := "wellspring/wellspringlaw17.SenderSends", spec := "senderSends", unfollowed := true, recurses := true, named := ["wellspring/sum.halves"], apart := false, laid := [("wellspring/sum.halves", laid_wellspring_sum_halves)] }
def SenderSendsSaid : Prop := senderSendsRow.holds Tryd.pinned (OpenSpec.ofChange senderSendsSpec)

/-- ITS FALSE NEIGHBOUR: 'it returns false'. Refute it at one input. -/
def senderSendsWrong : ChangeSpec := { name := "senderSends", fn := fun _ => fun
  | [d1, d2, d3] => { results := [.lit (.bool false)], args := [d1, d2, d3] }
  | _ => none }
def SenderSendsWrongFalsely : Prop := senderSendsRow.holds Tryd.pinned (OpenSpec.ofChange senderSendsWrong)

/-- 'wellspringlaw17.SenderSpent': WHATEVER THE INPUT: true; the input reads as it did. -/
def senderSpentSpec : ChangeSpec := { name := "senderSpent", fn := fun _ => fun
  | [] => { results := [.lit (.bool true)], args := [] }
  | _ => none }
def senderSpentRow : OpenClaim := { program := "ytdmijoochgmhiacdoor", sum := "03c67887addd843e7d7ca3088d96b68c49b229c75d7f3c46af54f64b0461c31d", func := "wellspring/wellspringlaw17.SenderSpent", spec := "senderSpent", unfollowed := true, recurses := true, named := ["wellspring/sum.halves"], apart := false, laid := [("wellspring/sum.halves", laid_wellspring_sum_halves)] }
def SenderSpentSaid : Prop := senderSpentRow.holds Tryd.pinned (OpenSpec.ofChange senderSpentSpec)

/-- ITS FALSE NEIGHBOUR: 'it returns false'. Refute it at one input. -/
def senderSpentWrong : ChangeSpec := { name := "senderSpent", fn := fun _ => fun
  | [] => { results := [.lit (.bool false)], args := [] }
  | _ => none }
def SenderSpentWrongFalsely : Prop := senderSpentRow.holds Tryd.pinned (OpenSpec.ofChange senderSpentWrong)

/-- 'wellspringlaw17.SenderHolds': WHATEVER THE INPUT: true; the input reads as it did. -/
def senderHoldsSpec : ChangeSpec := { name := "senderHolds", fn := fun _ => fun
  | [d1, d2, d3, d4] => { results := [.lit (.bool true)], args := [d1, d2, d3, d4] }
  | _ => none }
def senderHoldsRow : OpenClaim := { program := "ytdmijoochgmhiacdoor", sum := "03c67887addd843e7d7ca3088d96b68c49b229c75d7f3c46af54f64b0461c31d", func := "wellspring/wellspringlaw17.SenderHolds", spec := "senderHolds", unfollowed := true, recurses := true, named := ["wellspring/sum.halves"], apart := false, laid := [("wellspring/sum.halves", laid_wellspring_sum_halves)] }
def SenderHoldsSaid : Prop := senderHoldsRow.holds Tryd.pinned (OpenSpec.ofChange senderHoldsSpec)

/-- ITS FALSE NEIGHBOUR: 'it returns false'. Refute it at one input. -/
def senderHoldsWrong : ChangeSpec := { name := "senderHolds", fn := fun _ => fun
  | [d1, d2, d3, d4] => { results := [.lit (.bool false)], args := [d1, d2, d3, d4] }
  | _ => none }
def SenderHoldsWrongFalsely : Prop := senderHoldsRow.holds Tryd.pinned (OpenSpec.ofChange senderHoldsWrong)

/- THE SECOND FORM. 'bulk': how many values and letters a reading holds, each counted each time it is reached (what is shared counts as often as it is met; a slice's spare places count too). A statement '..UptoSaid' is the law's where the arguments, and the package variables that the reading takes, are together of bulk at most 1048576: NARROWER than '..Said'. Prove '..Said' where nothing that the law and all that it calls make is longer than what came in: it says more and counts as full. Else prove '..UptoSaid'. A law counts once. -/
mutual
def uptoBulk {H : Type} : DataW H → Nat
  | .lit (.string bytes) => bytes.length + 1
  | .lit _ => 1
  | .nil => 1
  | .ptr d => uptoBulk d + 1
  | .slice elems spare => uptoBulkAll elems + uptoBulkAll spare + 1
  | .agg parts => uptoBulkAll parts + 1
  | .iface _ d => uptoBulk d + 1
  | .map entries => uptoBulkEntries entries + 1
  | .held _ => 1
def uptoBulkAll {H : Type} : List (DataW H) → Nat
  | [] => 0
  | d :: r => uptoBulk d + uptoBulkAll r
def uptoBulkEntries {H : Type} : List (Lit × DataW H) → Nat
  | [] => 0
  | x :: r => uptoBulkEntry x + uptoBulkEntries r
def uptoBulkEntry {H : Type} : Lit × DataW H → Nat
  | (.string bytes, d) => bytes.length + uptoBulk d + 1
  | (_, d) => uptoBulk d + 1
 end
def uptoSmall : (H : Type) → List (DataW H) → Bool := fun _ ds => decide (uptoBulkAll ds ≤ 1048576)
def OpenSpec.upto (s : _root_.Go.ChangeSpec) : _root_.Go.OpenSpec := { _root_.Go.OpenSpec.ofChange s with cond := some uptoSmall }

/-- 'wellspringlaw18.GateLets', WHERE WHAT IT READS IS OF BULK AT MOST 1048576: true; the input reads as it did. -/
def gateLetsUptoRow : OpenClaim := { program := "ytdmijoochgmhiacdoor", sum := "03c67887addd843e7d7ca3088d96b68c49b229c75d7f3c46af54f64b0461c31d", func := "wellspring/wellspringlaw18.GateLets", spec := "gateLets", named := ["wellspring/sum.halves"], apart := false, laid := [("wellspring/sum.halves", laid_wellspring_sum_halves)], narrowed := true }
def GateLetsUptoSaid : Prop := gateLetsUptoRow.holds Tryd.pinned (OpenSpec.upto gateLetsSpec)

/-- 'wellspringlaw15.PacketBack', WHERE WHAT IT READS IS OF BULK AT MOST 1048576: true; the input reads as it did. -/
def packetBackUptoRow : OpenClaim := { program := "ytdmijoochgmhiacdoor", sum := "03c67887addd843e7d7ca3088d96b68c49b229c75d7f3c46af54f64b0461c31d", func := "wellspring/wellspringlaw15.PacketBack", spec := "packetBack", named := ["wellspring/sum.halves"], apart := false, laid := [("wellspring/sum.halves", laid_wellspring_sum_halves)], narrowed := true }
def PacketBackUptoSaid : Prop := packetBackUptoRow.holds Tryd.pinned (OpenSpec.upto packetBackSpec)

/-- 'wellspringlaw17.SenderSends', WHERE WHAT IT READS IS OF BULK AT MOST 1048576: true; the input reads as it did. -/
def senderSendsUptoRow : OpenClaim := { program := "ytdmijoochgmhiacdoor", sum := "03c67887addd843e7d7ca3088d96b68c49b229c75d7f3c46af54f64b0461c31d", func := "wellspring/wellspringlaw17.SenderSends", spec := "senderSends", unfollowed := true, recurses := true, named := ["wellspring/sum.halves"], apart := false, laid := [("wellspring/sum.halves", laid_wellspring_sum_halves)], narrowed := true }
def SenderSendsUptoSaid : Prop := senderSendsUptoRow.holds Tryd.pinned (OpenSpec.upto senderSendsSpec)

/-- 'wellspringlaw17.SenderSpent', WHERE WHAT IT READS IS OF BULK AT MOST 1048576: true; the input reads as it did. -/
def senderSpentUptoRow : OpenClaim := { program := "ytdmijoochgmhiacdoor", sum := "03c67887addd843e7d7ca3088d96b68c49b229c75d7f3c46af54f64b0461c31d", func := "wellspring/wellspringlaw17.SenderSpent", spec := "senderSpent", unfollowed := true, recurses := true, named := ["wellspring/sum.halves"], apart := false, laid := [("wellspring/sum.halves", laid_wellspring_sum_halves)], narrowed := true }
def SenderSpentUptoSaid : Prop := senderSpentUptoRow.holds Tryd.pinned (OpenSpec.upto senderSpentSpec)

/-- 'wellspringlaw17.SenderHolds', WHERE WHAT IT READS IS OF BULK AT MOST 1048576: true; the input reads as it did. -/
def senderHoldsUptoRow : OpenClaim := { program := "ytdmijoochgmhiacdoor", sum := "03c67887addd843e7d7ca3088d96b68c49b229c75d7f3c46af54f64b0461c31d", func := "wellspring/wellspringlaw17.SenderHolds", spec := "senderHolds", unfollowed := true, recurses := true, named := ["wellspring/sum.halves"], apart := false, laid := [("wellspring/sum.halves", laid_wellspring_sum_halves)], narrowed := true }
def SenderHoldsUptoSaid : Prop := senderHoldsUptoRow.holds Tryd.pinned (OpenSpec.upto senderHoldsSpec)

end Rows
end Go.Proofs.YtdmijoochgmhiacDoor
