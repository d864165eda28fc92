/-
  DERIVED. GIVEN WITH THE SEED: THE CARDS: each row of YtdmijoochgmhiacDoorRows.lean that lists a variable, with what it lists TIED to the program's text (the seventh form; the later family's looks); each row that meets fmt, with fmt's text TOLD by the authors' own Lean function (tested against real Go, not proved from fmt's source: count such statements apart). THE CARD IS WHAT COUNTS. Prove the row's statement (the work); the ties are given (YtdmijoochgmhiacDoorTie.lean); close each card by the builder's one call (the guide's Derived/Test/ToyasCard.lean, 'card_holds'). Laid BY PROGRAM, IN A SANDBOX (cutbox-door.mjs). By AI agents, Wed Nov 11 2026. No macro, syntax, notation, axiom, sorry.
-/
import Derived.Test.YtdmijoochgmhiacDoorRows
import GoSem.ClaimSeven
namespace Go.Proofs.YtdmijoochgmhiacDoor
namespace Rows

/-- THE TIED CARD OF 'wellspringlaw18.GateLets'. -/
def gateLetsCard : Claim7 := { stood := { row := gateLetsRow, standIns := [], harness := (true, "817c11cfbeb29581fb2069f5e0b7b83fab7b2bb4fa14185e5965d468ae439bdf"), looks := false }, kinds := [], alts := [], laidByText := true, laidKinds := [.data], laidTests := true, laidLooks := .later }
def GateLetsCardSaid : Prop := Claim7.holds Tryd.pinned (.plain (OpenSpec.ofChange gateLetsSpec)) gateLetsCard

/-- THE TIED CARD OF 'wellspringlaw15.PacketBack'. -/
def packetBackCard : Claim7 := { stood := { row := packetBackRow, standIns := [], harness := (true, "817c11cfbeb29581fb2069f5e0b7b83fab7b2bb4fa14185e5965d468ae439bdf"), looks := false }, kinds := [], alts := [], laidByText := true, laidKinds := [.data], laidTests := true, laidLooks := .later }
def PacketBackCardSaid : Prop := Claim7.holds Tryd.pinned (.plain (OpenSpec.ofChange packetBackSpec)) packetBackCard

/-- THE TIED CARD OF 'wellspringlaw17.SenderSends'. -/
def senderSendsCard : Claim7 := { stood := { row := senderSendsRow, standIns := [], harness := (true, "817c11cfbeb29581fb2069f5e0b7b83fab7b2bb4fa14185e5965d468ae439bdf"), looks := false }, kinds := [], alts := [], laidByText := true, laidKinds := [.data], laidTests := true, laidLooks := .later }
def SenderSendsCardSaid : Prop := Claim7.holds Tryd.pinned (.plain (OpenSpec.ofChange senderSendsSpec)) senderSendsCard

/-- THE TIED CARD OF 'wellspringlaw17.SenderSpent'. -/
def senderSpentCard : Claim7 := { stood := { row := senderSpentRow, standIns := [], harness := (true, "817c11cfbeb29581fb2069f5e0b7b83fab7b2bb4fa14185e5965d468ae439bdf"), looks := false }, kinds := [], alts := [], laidByText := true, laidKinds := [.data], laidTests := true, laidLooks := .later }
def SenderSpentCardSaid : Prop := Claim7.holds Tryd.pinned (.plain (OpenSpec.ofChange senderSpentSpec)) senderSpentCard

/-- THE TIED CARD OF 'wellspringlaw17.SenderHolds'. -/
def senderHoldsCard : Claim7 := { stood := { row := senderHoldsRow, standIns := [], harness := (true, "817c11cfbeb29581fb2069f5e0b7b83fab7b2bb4fa14185e5965d468ae439bdf"), looks := false }, kinds := [], alts := [], laidByText := true, laidKinds := [.data], laidTests := true, laidLooks := .later }
def SenderHoldsCardSaid : Prop := Claim7.holds Tryd.pinned (.plain (OpenSpec.ofChange senderHoldsSpec)) senderHoldsCard

/-- THE SECOND FORM's CARD OF 'wellspringlaw18.GateLets'. -/
def gateLetsUptoCard : Claim7 := { stood := { row := gateLetsUptoRow, standIns := [], harness := (true, "817c11cfbeb29581fb2069f5e0b7b83fab7b2bb4fa14185e5965d468ae439bdf"), looks := false }, kinds := [], alts := [], laidByText := true, laidKinds := [.data], laidTests := true, laidLooks := .later }
def GateLetsUptoCardSaid : Prop := Claim7.holds Tryd.pinned (.plain (OpenSpec.upto gateLetsSpec)) gateLetsUptoCard

/-- THE SECOND FORM's CARD OF 'wellspringlaw15.PacketBack'. -/
def packetBackUptoCard : Claim7 := { stood := { row := packetBackUptoRow, standIns := [], harness := (true, "817c11cfbeb29581fb2069f5e0b7b83fab7b2bb4fa14185e5965d468ae439bdf"), looks := false }, kinds := [], alts := [], laidByText := true, laidKinds := [.data], laidTests := true, laidLooks := .later }
def PacketBackUptoCardSaid : Prop := Claim7.holds Tryd.pinned (.plain (OpenSpec.upto packetBackSpec)) packetBackUptoCard

/-- THE SECOND FORM's CARD OF 'wellspringlaw17.SenderSends'. -/
def senderSendsUptoCard : Claim7 := { stood := { row := senderSendsUptoRow, standIns := [], harness := (true, "817c11cfbeb29581fb2069f5e0b7b83fab7b2bb4fa14185e5965d468ae439bdf"), looks := false }, kinds := [], alts := [], laidByText := true, laidKinds := [.data], laidTests := true, laidLooks := .later }
def SenderSendsUptoCardSaid : Prop := Claim7.holds Tryd.pinned (.plain (OpenSpec.upto senderSendsSpec)) senderSendsUptoCard

/-- THE SECOND FORM's CARD OF 'wellspringlaw17.SenderSpent'. -/
def senderSpentUptoCard : Claim7 := { stood := { row := senderSpentUptoRow, standIns := [], harness := (true, "817c11cfbeb29581fb2069f5e0b7b83fab7b2bb4fa14185e5965d468ae439bdf"), looks := false }, kinds := [], alts := [], laidByText := true, laidKinds := [.data], laidTests := true, laidLooks := .later }
def SenderSpentUptoCardSaid : Prop := Claim7.holds Tryd.pinned (.plain (OpenSpec.upto senderSpentSpec)) senderSpentUptoCard

/-- THE SECOND FORM's CARD OF 'wellspringlaw17.SenderHolds'. -/
def senderHoldsUptoCard : Claim7 := { stood := { row := senderHoldsUptoRow, standIns := [], harness := (true, "817c11cfbeb29581fb2069f5e0b7b83fab7b2bb4fa14185e5965d468ae439bdf"), looks := false }, kinds := [], alts := [], laidByText := true, laidKinds := [.data], laidTests := true, laidLooks := .later }
def SenderHoldsUptoCardSaid : Prop := Claim7.holds Tryd.pinned (.plain (OpenSpec.upto senderHoldsSpec)) senderHoldsUptoCard
end Rows
end Go.Proofs.YtdmijoochgmhiacDoor
