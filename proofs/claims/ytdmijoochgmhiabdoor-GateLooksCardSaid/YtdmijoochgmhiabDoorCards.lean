/-
  DERIVED. GIVEN WITH THE SEED: THE CARDS: each row of YtdmijoochgmhiabDoorRows.lean that lists a variable, with what it lists TIED to the program's text (the seventh form; the later family's looks); each row that meets fmt, with fmt's text TOLD by the authors' own Lean function (tested against real Go, not proved from fmt's source: count such statements apart). THE CARD IS WHAT COUNTS. Prove the row's statement (the work); the ties are given (YtdmijoochgmhiabDoorTie.lean); close each card by the builder's one call (the guide's Derived/Test/ToyasCard.lean, 'card_holds'). Laid BY PROGRAM, IN A SANDBOX (cutbox-door.mjs). By AI agents, Wed Nov 11 2026. No macro, syntax, notation, axiom, sorry.
-/
import Derived.Test.YtdmijoochgmhiabDoorRows
import GoSem.ClaimSeven
namespace Go.Proofs.YtdmijoochgmhiabDoor
namespace Rows

/-- THE TIED CARD OF 'wellspringlaw15.PacketReads'. -/
def packetReadsCard : Claim7 := { stood := { row := packetReadsRow, standIns := [], harness := (true, "7d5de84f0deb4f676ead62a7afd04956ccdb88ce481219afb300c6c0fb5ff1d6"), looks := false }, kinds := [], alts := [], laidByText := true, laidKinds := [.data], laidTests := true, laidLooks := .later }
def PacketReadsCardSaid : Prop := Claim7.holds Tryd.pinned (.plain (OpenSpec.ofChange packetReadsSpec)) packetReadsCard

/-- THE TIED CARD OF 'wellspringlaw18.GateLooks'. -/
def gateLooksCard : Claim7 := { stood := { row := gateLooksRow, standIns := [], harness := (true, "7d5de84f0deb4f676ead62a7afd04956ccdb88ce481219afb300c6c0fb5ff1d6"), looks := false }, kinds := [], alts := [], laidByText := true, laidKinds := [.data], laidTests := true, laidLooks := .later }
def GateLooksCardSaid : Prop := Claim7.holds Tryd.pinned (.plain (OpenSpec.ofChange gateLooksSpec)) gateLooksCard

/-- THE TIED CARD OF 'wellspringlaw15.PacketWrites'. -/
def packetWritesCard : Claim7 := { stood := { row := packetWritesRow, standIns := [], harness := (true, "7d5de84f0deb4f676ead62a7afd04956ccdb88ce481219afb300c6c0fb5ff1d6"), looks := false }, kinds := [], alts := [], laidByText := true, laidKinds := [.data], laidTests := true, laidLooks := .later }
def PacketWritesCardSaid : Prop := Claim7.holds Tryd.pinned (.plain (OpenSpec.ofChange packetWritesSpec)) packetWritesCard

/-- THE SECOND FORM's CARD OF 'wellspringlaw15.PacketReads'. -/
def packetReadsUptoCard : Claim7 := { stood := { row := packetReadsUptoRow, standIns := [], harness := (true, "7d5de84f0deb4f676ead62a7afd04956ccdb88ce481219afb300c6c0fb5ff1d6"), looks := false }, kinds := [], alts := [], laidByText := true, laidKinds := [.data], laidTests := true, laidLooks := .later }
def PacketReadsUptoCardSaid : Prop := Claim7.holds Tryd.pinned (.plain (OpenSpec.upto packetReadsSpec)) packetReadsUptoCard

/-- THE SECOND FORM's CARD OF 'wellspringlaw18.GateLooks'. -/
def gateLooksUptoCard : Claim7 := { stood := { row := gateLooksUptoRow, standIns := [], harness := (true, "7d5de84f0deb4f676ead62a7afd04956ccdb88ce481219afb300c6c0fb5ff1d6"), looks := false }, kinds := [], alts := [], laidByText := true, laidKinds := [.data], laidTests := true, laidLooks := .later }
def GateLooksUptoCardSaid : Prop := Claim7.holds Tryd.pinned (.plain (OpenSpec.upto gateLooksSpec)) gateLooksUptoCard

/-- THE SECOND FORM's CARD OF 'wellspringlaw15.PacketWrites'. -/
def packetWritesUptoCard : Claim7 := { stood := { row := packetWritesUptoRow, standIns := [], harness := (true, "7d5de84f0deb4f676ead62a7afd04956ccdb88ce481219afb300c6c0fb5ff1d6"), looks := false }, kinds := [], alts := [], laidByText := true, laidKinds := [.data], laidTests := true, laidLooks := .later }
def PacketWritesUptoCardSaid : Prop := Claim7.holds Tryd.pinned (.plain (OpenSpec.upto packetWritesSpec)) packetWritesUptoCard
end Rows
end Go.Proofs.YtdmijoochgmhiabDoor
