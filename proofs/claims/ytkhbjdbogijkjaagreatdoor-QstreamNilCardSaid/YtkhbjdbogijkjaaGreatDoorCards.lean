/-
  DERIVED. GIVEN WITH THE SEED: THE CARDS: each row of YtkhbjdbogijkjaaGreatDoorRows.lean that lists a variable, with what it lists TIED to the program's text (the seventh form; the later family's looks); each row that meets fmt, with fmt's text TOLD by the authors' own Lean function (tested against real Go, not proved from fmt's source: count such statements apart). THE CARD IS WHAT COUNTS. Prove the row's statement (the work); the ties are given (YtkhbjdbogijkjaaGreatDoorTie.lean); close each card by the builder's one call (the guide's Derived/Test/ToyasCard.lean, 'card_holds'). Laid BY PROGRAM, IN A SANDBOX (cutbox-door.mjs). By AI agents, Wed Nov 11 2026. No macro, syntax, notation, axiom, sorry.
-/
import Derived.Test.YtkhbjdbogijkjaaGreatDoorRows
import GoSem.ClaimSeven
namespace Go.Proofs.YtkhbjdbogijkjaaGreatDoor
namespace Rows

/-- THE TIED CARD OF 'datakitlaw44.QstreamNil'. -/
def qstreamNilCard : Claim7 := { stood := { row := qstreamNilRow, standIns := [], harness := (true, "fd80b77237414b899555f2ad200d4712662c344e42e43d5e098bd213633d5248"), looks := true }, kinds := [], alts := [], laidByText := true, laidKinds := [.data, .listed, .data, .pinned, .data, .sentinel, .sentinel, .data, .data, .data], laidTests := true, laidLooks := .later }
def QstreamNilCardSaid : Prop := Claim7.holds Tryz.pinned (.plain (OpenSpec.ofChange qstreamNilSpec)) qstreamNilCard

/-- THE SECOND FORM's CARD OF 'datakitlaw44.QstreamNil'. -/
def qstreamNilUptoCard : Claim7 := { stood := { row := qstreamNilUptoRow, standIns := [], harness := (true, "fd80b77237414b899555f2ad200d4712662c344e42e43d5e098bd213633d5248"), looks := true }, kinds := [], alts := [], laidByText := true, laidKinds := [.data, .listed, .data, .pinned, .data, .sentinel, .sentinel, .data, .data, .data], laidTests := true, laidLooks := .later }
def QstreamNilUptoCardSaid : Prop := Claim7.holds Tryz.pinned (.plain (OpenSpec.upto qstreamNilSpec)) qstreamNilUptoCard
end Rows
end Go.Proofs.YtkhbjdbogijkjaaGreatDoor
