/-
  DERIVED. GIVEN WITH THE SEED: THE CARDS: each row of YtfkcdnaghndgfaaGreatDoorRows.lean that lists a variable, with what it lists TIED to the program's text (the seventh form; the later family's looks); each row that meets fmt, with fmt's text TOLD by the authors' own Lean function (tested against real Go, not proved from fmt's source: count such statements apart). THE CARD IS WHAT COUNTS. Prove the row's statement (the work); the ties are given (YtfkcdnaghndgfaaGreatDoorTie.lean); close each card by the builder's one call (the guide's Derived/Test/ToyasCard.lean, 'card_holds'). Laid BY PROGRAM, IN A SANDBOX (cutbox-door.mjs). By AI agents, Wed Nov 11 2026. No macro, syntax, notation, axiom, sorry.
-/
import Derived.Test.YtfkcdnaghndgfaaGreatDoorRows
import GoSem.ClaimSeven
namespace Go.Proofs.YtfkcdnaghndgfaaGreatDoor
namespace Rows

/-- THE TIED CARD OF 'swinglelaw22.EntryLays'. -/
def entryLaysCard : Claim7 := { stood := { row := entryLaysRow, standIns := [], harness := (true, "738dfeaf736b814fc16da64adbe2bb4a6b20396c6f7ba8288970fce6cfac0ec9"), looks := true }, kinds := [], alts := [], laidByText := true, laidKinds := [.data, .pinned], laidTests := true, laidLooks := .later }
def EntryLaysCardSaid : Prop := Claim7.holds Tryz.pinned (.plain (OpenSpec.ofChange entryLaysSpec)) entryLaysCard

/-- THE TIED CARD OF 'swinglelaw22.EntryReads'. -/
def entryReadsCard : Claim7 := { stood := { row := entryReadsRow, standIns := [], harness := (true, "738dfeaf736b814fc16da64adbe2bb4a6b20396c6f7ba8288970fce6cfac0ec9"), looks := true }, kinds := [], alts := [], laidByText := true, laidKinds := [.data, .pinned], laidTests := true, laidLooks := .later }
def EntryReadsCardSaid : Prop := Claim7.holds Tryz.pinned (.plain (OpenSpec.ofChange entryReadsSpec)) entryReadsCard

/-- THE TIED CARD OF 'swinglelaw22.EntryBack'. -/
def entryBackCard : Claim7 := { stood := { row := entryBackRow, standIns := [], harness := (true, "738dfeaf736b814fc16da64adbe2bb4a6b20396c6f7ba8288970fce6cfac0ec9"), looks := true }, kinds := [], alts := [], laidByText := true, laidKinds := [.data, .pinned], laidTests := true, laidLooks := .later }
def EntryBackCardSaid : Prop := Claim7.holds Tryz.pinned (.plain (OpenSpec.ofChange entryBackSpec)) entryBackCard

/-- THE SECOND FORM's CARD OF 'swinglelaw22.EntryLays'. -/
def entryLaysUptoCard : Claim7 := { stood := { row := entryLaysUptoRow, standIns := [], harness := (true, "738dfeaf736b814fc16da64adbe2bb4a6b20396c6f7ba8288970fce6cfac0ec9"), looks := true }, kinds := [], alts := [], laidByText := true, laidKinds := [.data, .pinned], laidTests := true, laidLooks := .later }
def EntryLaysUptoCardSaid : Prop := Claim7.holds Tryz.pinned (.plain (OpenSpec.upto entryLaysSpec)) entryLaysUptoCard

/-- THE SECOND FORM's CARD OF 'swinglelaw22.EntryReads'. -/
def entryReadsUptoCard : Claim7 := { stood := { row := entryReadsUptoRow, standIns := [], harness := (true, "738dfeaf736b814fc16da64adbe2bb4a6b20396c6f7ba8288970fce6cfac0ec9"), looks := true }, kinds := [], alts := [], laidByText := true, laidKinds := [.data, .pinned], laidTests := true, laidLooks := .later }
def EntryReadsUptoCardSaid : Prop := Claim7.holds Tryz.pinned (.plain (OpenSpec.upto entryReadsSpec)) entryReadsUptoCard

/-- THE SECOND FORM's CARD OF 'swinglelaw22.EntryBack'. -/
def entryBackUptoCard : Claim7 := { stood := { row := entryBackUptoRow, standIns := [], harness := (true, "738dfeaf736b814fc16da64adbe2bb4a6b20396c6f7ba8288970fce6cfac0ec9"), looks := true }, kinds := [], alts := [], laidByText := true, laidKinds := [.data, .pinned], laidTests := true, laidLooks := .later }
def EntryBackUptoCardSaid : Prop := Claim7.holds Tryz.pinned (.plain (OpenSpec.upto entryBackSpec)) entryBackUptoCard
end Rows
end Go.Proofs.YtfkcdnaghndgfaaGreatDoor
