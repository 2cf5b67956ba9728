/-
  DERIVED. GIVEN WITH THE SEED: THE CARDS: each row of YtaeclmligojlaaaGreatDoorRows.lean that lists a variable, with what it lists TIED to the program's text (the seventh form; the later family's looks); each row that meets fmt, with fmt's text TOLD by the authors' own Lean function (tested against real Go, not proved from fmt's source: count such statements apart). THE CARD IS WHAT COUNTS. Prove the row's statement (the work); the ties are given (YtaeclmligojlaaaGreatDoorTie.lean); close each card by the builder's one call (the guide's Derived/Test/ToyasCard.lean, 'card_holds'). Laid BY PROGRAM, IN A SANDBOX (cutbox-door.mjs). By AI agents, Wed Nov 11 2026. No macro, syntax, notation, axiom, sorry.
-/
import Derived.Test.YtaeclmligojlaaaGreatDoorRows
import GoSem.ClaimSeven
namespace Go.Proofs.YtaeclmligojlaaaGreatDoor
namespace Rows

/-- THE TIED CARD OF 'datakitlaw37.BuiltinSorts'. -/
def builtinSortsCard : Claim7 := { stood := { row := builtinSortsRow, standIns := [], harness := (true, "fef05286fa9f86435fb10662b43e579e9a3a5485f2208009ac5de32a12aa63c0"), looks := true }, kinds := [], alts := [], laidByText := true, laidKinds := [.data, .data, .data, .data, .sentinel, .sentinel, .listed, .data, .pinned], laidTests := true, laidLooks := .later }
def BuiltinSortsCardSaid : Prop := Claim7.holds Tryz.pinned (.plain (OpenSpec.ofChange builtinSortsSpec)) builtinSortsCard

/-- THE TIED CARD OF 'datakitlaw37.BuiltinEntries'. -/
def builtinEntriesCard : Claim7 := { stood := { row := builtinEntriesRow, standIns := [], harness := (true, "fef05286fa9f86435fb10662b43e579e9a3a5485f2208009ac5de32a12aa63c0"), looks := true }, kinds := [], alts := [], laidByText := true, laidKinds := [.data, .data, .data, .data, .sentinel, .sentinel, .listed, .data, .pinned], laidTests := true, laidLooks := .later }
def BuiltinEntriesCardSaid : Prop := Claim7.holds Tryz.pinned (.plain (OpenSpec.ofChange builtinEntriesSpec)) builtinEntriesCard

/-- THE TIED CARD OF 'datakitlaw37.BuiltinJoins'. -/
def builtinJoinsCard : Claim7 := { stood := { row := builtinJoinsRow, standIns := [], harness := (true, "fef05286fa9f86435fb10662b43e579e9a3a5485f2208009ac5de32a12aa63c0"), looks := true }, kinds := [], alts := [], laidByText := true, laidKinds := [.data, .data, .data, .data, .sentinel, .sentinel, .listed, .data, .pinned], laidTests := true, laidLooks := .later }
def BuiltinJoinsCardSaid : Prop := Claim7.holds Tryz.pinned (.plain (OpenSpec.ofChange builtinJoinsSpec)) builtinJoinsCard

/-- THE SECOND FORM's CARD OF 'datakitlaw37.BuiltinSorts'. -/
def builtinSortsUptoCard : Claim7 := { stood := { row := builtinSortsUptoRow, standIns := [], harness := (true, "fef05286fa9f86435fb10662b43e579e9a3a5485f2208009ac5de32a12aa63c0"), looks := true }, kinds := [], alts := [], laidByText := true, laidKinds := [.data, .data, .data, .data, .sentinel, .sentinel, .listed, .data, .pinned], laidTests := true, laidLooks := .later }
def BuiltinSortsUptoCardSaid : Prop := Claim7.holds Tryz.pinned (.plain (OpenSpec.upto builtinSortsSpec)) builtinSortsUptoCard

/-- THE SECOND FORM's CARD OF 'datakitlaw37.BuiltinEntries'. -/
def builtinEntriesUptoCard : Claim7 := { stood := { row := builtinEntriesUptoRow, standIns := [], harness := (true, "fef05286fa9f86435fb10662b43e579e9a3a5485f2208009ac5de32a12aa63c0"), looks := true }, kinds := [], alts := [], laidByText := true, laidKinds := [.data, .data, .data, .data, .sentinel, .sentinel, .listed, .data, .pinned], laidTests := true, laidLooks := .later }
def BuiltinEntriesUptoCardSaid : Prop := Claim7.holds Tryz.pinned (.plain (OpenSpec.upto builtinEntriesSpec)) builtinEntriesUptoCard

/-- THE SECOND FORM's CARD OF 'datakitlaw37.BuiltinJoins'. -/
def builtinJoinsUptoCard : Claim7 := { stood := { row := builtinJoinsUptoRow, standIns := [], harness := (true, "fef05286fa9f86435fb10662b43e579e9a3a5485f2208009ac5de32a12aa63c0"), looks := true }, kinds := [], alts := [], laidByText := true, laidKinds := [.data, .data, .data, .data, .sentinel, .sentinel, .listed, .data, .pinned], laidTests := true, laidLooks := .later }
def BuiltinJoinsUptoCardSaid : Prop := Claim7.holds Tryz.pinned (.plain (OpenSpec.upto builtinJoinsSpec)) builtinJoinsUptoCard
end Rows
end Go.Proofs.YtaeclmligojlaaaGreatDoor
