/-
  DERIVED. GIVEN WITH THE SEED: THE CARDS: each row of YtoephflcjllaaaaGreatDoorRows.lean that lists a variable, with what it lists TIED to the program's text (the seventh form; the later family's looks); each row that meets fmt, with fmt's text TOLD by the authors' own Lean function (tested against real Go, not proved from fmt's source: count such statements apart). THE CARD IS WHAT COUNTS. Prove the row's statement (the work); the ties are given (YtoephflcjllaaaaGreatDoorTie.lean); close each card by the builder's one call (the guide's Derived/Test/ToyasCard.lean, 'card_holds'). Laid BY PROGRAM, IN A SANDBOX (cutbox-door.mjs). By AI agents, Wed Nov 11 2026. No macro, syntax, notation, axiom, sorry.
-/
import Derived.Test.YtoephflcjllaaaaGreatDoorRows
import GoSem.ClaimSeven
namespace Go.Proofs.YtoephflcjllaaaaGreatDoor
namespace Rows

/-- THE TIED CARD OF 'bagslaw.Opens'. -/
def opensCard : Claim7 := { stood := { row := opensRow, standIns := [], harness := (true, "1eedd1fb64cc1afc9a1d80db2488e4e72569d86aa7177f4649503ba5507d2fbc"), looks := true }, kinds := [], alts := [], laidByText := true, laidKinds := [.data, .data, .data, .data, .handle, .sentinel, .sentinel, .pinned], laidTests := true, laidLooks := .later }
def OpensCardSaid : Prop := Claim7.holds Tryz.pinned (.plain (OpenSpec.ofChange opensSpec)) opensCard

/-- THE TIED CARD OF 'bagslaw.Reads'. -/
def readsCard : Claim7 := { stood := { row := readsRow, standIns := [], harness := (true, "1eedd1fb64cc1afc9a1d80db2488e4e72569d86aa7177f4649503ba5507d2fbc"), looks := true }, kinds := [], alts := [], laidByText := true, laidKinds := [.data, .data, .data, .handle, .sentinel, .sentinel], laidTests := true, laidLooks := .later }
def ReadsCardSaid : Prop := Claim7.holds Tryz.pinned (.plain (OpenSpec.ofChange readsSpec)) readsCard

/-- THE TIED CARD OF 'bagslaw.Prints'. -/
def printsCard : Claim7 := { stood := { row := printsRow, standIns := [], harness := (true, "1eedd1fb64cc1afc9a1d80db2488e4e72569d86aa7177f4649503ba5507d2fbc"), looks := true }, kinds := [], alts := [], laidByText := true, laidKinds := [.data, .data, .data, .handle, .sentinel, .sentinel], laidTests := true, laidLooks := .later }
def PrintsCardSaid : Prop := Claim7.holds Tryz.pinned (.plain (OpenSpec.ofChange printsSpec)) printsCard

/-- THE SECOND FORM's CARD OF 'bagslaw.Opens'. -/
def opensUptoCard : Claim7 := { stood := { row := opensUptoRow, standIns := [], harness := (true, "1eedd1fb64cc1afc9a1d80db2488e4e72569d86aa7177f4649503ba5507d2fbc"), looks := true }, kinds := [], alts := [], laidByText := true, laidKinds := [.data, .data, .data, .data, .handle, .sentinel, .sentinel, .pinned], laidTests := true, laidLooks := .later }
def OpensUptoCardSaid : Prop := Claim7.holds Tryz.pinned (.plain (OpenSpec.upto opensSpec)) opensUptoCard

/-- THE SECOND FORM's CARD OF 'bagslaw.Reads'. -/
def readsUptoCard : Claim7 := { stood := { row := readsUptoRow, standIns := [], harness := (true, "1eedd1fb64cc1afc9a1d80db2488e4e72569d86aa7177f4649503ba5507d2fbc"), looks := true }, kinds := [], alts := [], laidByText := true, laidKinds := [.data, .data, .data, .handle, .sentinel, .sentinel], laidTests := true, laidLooks := .later }
def ReadsUptoCardSaid : Prop := Claim7.holds Tryz.pinned (.plain (OpenSpec.upto readsSpec)) readsUptoCard

/-- THE SECOND FORM's CARD OF 'bagslaw.Prints'. -/
def printsUptoCard : Claim7 := { stood := { row := printsUptoRow, standIns := [], harness := (true, "1eedd1fb64cc1afc9a1d80db2488e4e72569d86aa7177f4649503ba5507d2fbc"), looks := true }, kinds := [], alts := [], laidByText := true, laidKinds := [.data, .data, .data, .handle, .sentinel, .sentinel], laidTests := true, laidLooks := .later }
def PrintsUptoCardSaid : Prop := Claim7.holds Tryz.pinned (.plain (OpenSpec.upto printsSpec)) printsUptoCard
end Rows
end Go.Proofs.YtoephflcjllaaaaGreatDoor
