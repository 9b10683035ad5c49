/-
  DERIVED. GIVEN WITH THE SEED: THE CARDS: each row of YtfkenhihcmmgkaaGreatDoorRows.lean that lists a variable, with what it lists TIED to the program's text (the seventh form; the later family's looks); each row that meets fmt, with fmt's text TOLD by the authors' own Lean function (tested against real Go, not proved from fmt's source: count such statements apart). THE CARD IS WHAT COUNTS. Prove the row's statement (the work); the ties are given (YtfkenhihcmmgkaaGreatDoorTie.lean); close each card by the builder's one call (the guide's Derived/Test/ToyasCard.lean, 'card_holds'). Laid BY PROGRAM, IN A SANDBOX (cutbox-door.mjs). By AI agents, Wed Nov 11 2026. No macro, syntax, notation, axiom, sorry.
-/
import Derived.Test.YtfkenhihcmmgkaaGreatDoorRows
import GoSem.ClaimSeven
namespace Go.Proofs.YtfkenhihcmmgkaaGreatDoor
namespace Rows

/-- THE TIED CARD OF 'swinglelaw23.ZipLive'. -/
def zipLiveCard : Claim7 := { stood := { row := zipLiveRow, standIns := [], harness := (true, "5c57e9467ad4562cd605a7d85def5ffe389ad96606ea842c4072680742fb341b"), looks := true }, kinds := [], alts := [], laidByText := true, laidKinds := [.data, .pinned], laidTests := true, laidLooks := .later }
def ZipLiveCardSaid : Prop := Claim7.holds Tryz.pinned (.plain (OpenSpec.ofChange zipLiveSpec)) zipLiveCard

/-- THE TIED CARD OF 'swinglelaw23.ZipReads'. -/
def zipReadsCard : Claim7 := { stood := { row := zipReadsRow, standIns := [], harness := (true, "5c57e9467ad4562cd605a7d85def5ffe389ad96606ea842c4072680742fb341b"), looks := true }, kinds := [], alts := [], laidByText := true, laidKinds := [.data, .pinned], laidTests := true, laidLooks := .later }
def ZipReadsCardSaid : Prop := Claim7.holds Tryz.pinned (.plain (OpenSpec.ofChange zipReadsSpec)) zipReadsCard

/-- THE SECOND FORM's CARD OF 'swinglelaw23.ZipLive'. -/
def zipLiveUptoCard : Claim7 := { stood := { row := zipLiveUptoRow, standIns := [], harness := (true, "5c57e9467ad4562cd605a7d85def5ffe389ad96606ea842c4072680742fb341b"), looks := true }, kinds := [], alts := [], laidByText := true, laidKinds := [.data, .pinned], laidTests := true, laidLooks := .later }
def ZipLiveUptoCardSaid : Prop := Claim7.holds Tryz.pinned (.plain (OpenSpec.upto zipLiveSpec)) zipLiveUptoCard

/-- THE SECOND FORM's CARD OF 'swinglelaw23.ZipReads'. -/
def zipReadsUptoCard : Claim7 := { stood := { row := zipReadsUptoRow, standIns := [], harness := (true, "5c57e9467ad4562cd605a7d85def5ffe389ad96606ea842c4072680742fb341b"), looks := true }, kinds := [], alts := [], laidByText := true, laidKinds := [.data, .pinned], laidTests := true, laidLooks := .later }
def ZipReadsUptoCardSaid : Prop := Claim7.holds Tryz.pinned (.plain (OpenSpec.upto zipReadsSpec)) zipReadsUptoCard
end Rows
end Go.Proofs.YtfkenhihcmmgkaaGreatDoor
