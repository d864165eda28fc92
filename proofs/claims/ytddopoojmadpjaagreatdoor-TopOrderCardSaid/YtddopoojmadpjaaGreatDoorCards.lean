/-
  DERIVED. GIVEN WITH THE SEED: THE CARDS: each row of YtddopoojmadpjaaGreatDoorRows.lean that lists a variable, with what it lists TIED to the program's text (the seventh form; the later family's looks); each row that meets fmt, with fmt's text TOLD by the authors' own Lean function (tested against real Go, not proved from fmt's source: count such statements apart). THE CARD IS WHAT COUNTS. Prove the row's statement (the work); the ties are given (YtddopoojmadpjaaGreatDoorTie.lean); close each card by the builder's one call (the guide's Derived/Test/ToyasCard.lean, 'card_holds'). Laid BY PROGRAM, IN A SANDBOX (cutbox-door.mjs). By AI agents, Wed Nov 11 2026. No macro, syntax, notation, axiom, sorry.
-/
import Derived.Test.YtddopoojmadpjaaGreatDoorRows
import GoSem.ClaimSeven
namespace Go.Proofs.YtddopoojmadpjaaGreatDoor
namespace Rows

/-- THE TIED CARD OF 'wellspringtop.TopMixed'. -/
def topMixedCard : Claim7 := { stood := { row := topMixedRow, standIns := [], harness := (true, "54720919d3648ce61b4cc7e62d8d9c772cc88f5aa3a990f37f0e3be3426bf606"), looks := false }, kinds := [], alts := [], laidByText := true, laidKinds := [.data], laidTests := true, laidLooks := .later }
def TopMixedCardSaid : Prop := Claim7.holds Tryz.pinned (.plain (OpenSpec.ofChange topMixedSpec)) topMixedCard

/-- THE TIED CARD OF 'wellspringtop.TopRelays'. -/
def topRelaysCard : Claim7 := { stood := { row := topRelaysRow, standIns := [], harness := (true, "54720919d3648ce61b4cc7e62d8d9c772cc88f5aa3a990f37f0e3be3426bf606"), looks := false }, kinds := [], alts := [], laidByText := true, laidKinds := [.data], laidTests := true, laidLooks := .later }
def TopRelaysCardSaid : Prop := Claim7.holds Tryz.pinned (.plain (OpenSpec.ofChange topRelaysSpec)) topRelaysCard

/-- THE TIED CARD OF 'wellspringtop.TopOrder'. -/
def topOrderCard : Claim7 := { stood := { row := topOrderRow, standIns := [], harness := (true, "54720919d3648ce61b4cc7e62d8d9c772cc88f5aa3a990f37f0e3be3426bf606"), looks := false }, kinds := [], alts := [], laidByText := true, laidKinds := [.data], laidTests := true, laidLooks := .later }
def TopOrderCardSaid : Prop := Claim7.holds Tryz.pinned (.plain (OpenSpec.ofChange topOrderSpec)) topOrderCard

/-- THE SECOND FORM's CARD OF 'wellspringtop.TopMixed'. -/
def topMixedUptoCard : Claim7 := { stood := { row := topMixedUptoRow, standIns := [], harness := (true, "54720919d3648ce61b4cc7e62d8d9c772cc88f5aa3a990f37f0e3be3426bf606"), looks := false }, kinds := [], alts := [], laidByText := true, laidKinds := [.data], laidTests := true, laidLooks := .later }
def TopMixedUptoCardSaid : Prop := Claim7.holds Tryz.pinned (.plain (OpenSpec.upto topMixedSpec)) topMixedUptoCard

/-- THE SECOND FORM's CARD OF 'wellspringtop.TopRelays'. -/
def topRelaysUptoCard : Claim7 := { stood := { row := topRelaysUptoRow, standIns := [], harness := (true, "54720919d3648ce61b4cc7e62d8d9c772cc88f5aa3a990f37f0e3be3426bf606"), looks := false }, kinds := [], alts := [], laidByText := true, laidKinds := [.data], laidTests := true, laidLooks := .later }
def TopRelaysUptoCardSaid : Prop := Claim7.holds Tryz.pinned (.plain (OpenSpec.upto topRelaysSpec)) topRelaysUptoCard

/-- THE SECOND FORM's CARD OF 'wellspringtop.TopOrder'. -/
def topOrderUptoCard : Claim7 := { stood := { row := topOrderUptoRow, standIns := [], harness := (true, "54720919d3648ce61b4cc7e62d8d9c772cc88f5aa3a990f37f0e3be3426bf606"), looks := false }, kinds := [], alts := [], laidByText := true, laidKinds := [.data], laidTests := true, laidLooks := .later }
def TopOrderUptoCardSaid : Prop := Claim7.holds Tryz.pinned (.plain (OpenSpec.upto topOrderSpec)) topOrderUptoCard
end Rows
end Go.Proofs.YtddopoojmadpjaaGreatDoor
