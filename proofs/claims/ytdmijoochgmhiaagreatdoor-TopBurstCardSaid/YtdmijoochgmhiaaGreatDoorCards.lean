/-
  DERIVED. GIVEN WITH THE SEED: THE CARDS: each row of YtdmijoochgmhiaaGreatDoorRows.lean that lists a variable, with what it lists TIED to the program's text (the seventh form; the later family's looks); each row that meets fmt, with fmt's text TOLD by the authors' own Lean function (tested against real Go, not proved from fmt's source: count such statements apart). THE CARD IS WHAT COUNTS. Prove the row's statement (the work); the ties are given (YtdmijoochgmhiaaGreatDoorTie.lean); close each card by the builder's one call (the guide's Derived/Test/ToyasCard.lean, 'card_holds'). Laid BY PROGRAM, IN A SANDBOX (cutbox-door.mjs). By AI agents, Wed Nov 11 2026. No macro, syntax, notation, axiom, sorry.
-/
import Derived.Test.YtdmijoochgmhiaaGreatDoorRows
import GoSem.ClaimSeven
namespace Go.Proofs.YtdmijoochgmhiaaGreatDoor
namespace Rows

/-- THE TIED CARD OF 'wellspringtop.TopMixed'. -/
def topMixedCard : Claim7 := { stood := { row := topMixedRow, standIns := [], harness := (true, "ef658adddf5f79446e4e358314cb6f7a7f9f24274de6f7bbcd8f39be7504b124"), looks := false }, kinds := [], alts := [], laidByText := true, laidKinds := [.data], laidTests := true, laidLooks := .later }
def TopMixedCardSaid : Prop := Claim7.holds Tryz.pinned (.plain (OpenSpec.ofChange topMixedSpec)) topMixedCard

/-- THE TIED CARD OF 'wellspringtop.TopBurst'. -/
def topBurstCard : Claim7 := { stood := { row := topBurstRow, standIns := [], harness := (true, "ef658adddf5f79446e4e358314cb6f7a7f9f24274de6f7bbcd8f39be7504b124"), looks := false }, kinds := [], alts := [], laidByText := true, laidKinds := [.data], laidTests := true, laidLooks := .later }
def TopBurstCardSaid : Prop := Claim7.holds Tryz.pinned (.plain (OpenSpec.ofChange topBurstSpec)) topBurstCard

/-- THE SECOND FORM's CARD OF 'wellspringtop.TopMixed'. -/
def topMixedUptoCard : Claim7 := { stood := { row := topMixedUptoRow, standIns := [], harness := (true, "ef658adddf5f79446e4e358314cb6f7a7f9f24274de6f7bbcd8f39be7504b124"), looks := false }, kinds := [], alts := [], laidByText := true, laidKinds := [.data], laidTests := true, laidLooks := .later }
def TopMixedUptoCardSaid : Prop := Claim7.holds Tryz.pinned (.plain (OpenSpec.upto topMixedSpec)) topMixedUptoCard

/-- THE SECOND FORM's CARD OF 'wellspringtop.TopBurst'. -/
def topBurstUptoCard : Claim7 := { stood := { row := topBurstUptoRow, standIns := [], harness := (true, "ef658adddf5f79446e4e358314cb6f7a7f9f24274de6f7bbcd8f39be7504b124"), looks := false }, kinds := [], alts := [], laidByText := true, laidKinds := [.data], laidTests := true, laidLooks := .later }
def TopBurstUptoCardSaid : Prop := Claim7.holds Tryz.pinned (.plain (OpenSpec.upto topBurstSpec)) topBurstUptoCard
end Rows
end Go.Proofs.YtdmijoochgmhiaaGreatDoor
