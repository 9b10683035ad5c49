/-
  DERIVED. GIVEN WITH THE SEED: THE CARDS: each row of YtigjingielnaoaaDoorRows.lean that lists a variable, with what it lists TIED to the program's text (the seventh form; the later family's looks); each row that meets fmt, with fmt's text TOLD by the authors' own Lean function (tested against real Go, not proved from fmt's source: count such statements apart). THE CARD IS WHAT COUNTS. Prove the row's statement (the work); the ties are given (YtigjingielnaoaaDoorTie.lean); close each card by the builder's one call (the guide's Derived/Test/ToyasCard.lean, 'card_holds'). Laid BY PROGRAM, IN A SANDBOX (cutbox-door.mjs). By AI agents, Wed Nov 11 2026. No macro, syntax, notation, axiom, sorry.
-/
import Derived.Test.YtigjingielnaoaaDoorRows
import GoSem.ClaimSeven
namespace Go.Proofs.YtigjingielnaoaaDoor
namespace Rows

/-- THE TIED CARD OF 'swinglelaw43.DumpRows'. -/
def dumpRowsCard : Claim7 := { stood := { row := dumpRowsRow, standIns := [], harness := (true, "4b578f9a932e130ac2753065bbafe083f418f795f122a26d69eba1498f10d70a"), looks := false }, kinds := [], alts := [], laidByText := true, laidKinds := [.data, .pinned], laidTests := true, laidLooks := .later }
def DumpRowsCardSaid : Prop := Claim7.holds Tryd.pinned (.plain (OpenSpec.ofChange dumpRowsSpec)) dumpRowsCard

/-- THE TIED CARD OF 'swinglelaw35.ScriptNodes'. -/
def scriptNodesCard : Claim7 := { stood := { row := scriptNodesRow, standIns := [], harness := (true, "4b578f9a932e130ac2753065bbafe083f418f795f122a26d69eba1498f10d70a"), looks := false }, kinds := [], alts := [], laidByText := true, laidKinds := [.data, .pinned], laidTests := true, laidLooks := .later }
def ScriptNodesCardSaid : Prop := Claim7.holds Tryd.pinned (.plain (OpenSpec.ofChange scriptNodesSpec)) scriptNodesCard

/-- THE TIED CARD OF 'swinglelaw35.ScriptParses'. -/
def scriptParsesCard : Claim7 := { stood := { row := scriptParsesRow, standIns := [], harness := (true, "4b578f9a932e130ac2753065bbafe083f418f795f122a26d69eba1498f10d70a"), looks := false }, kinds := [], alts := [], laidByText := true, laidKinds := [.data, .pinned], laidTests := true, laidLooks := .later }
def ScriptParsesCardSaid : Prop := Claim7.holds Tryd.pinned (.plain (OpenSpec.ofChange scriptParsesSpec)) scriptParsesCard

/-- THE SECOND FORM's CARD OF 'swinglelaw43.DumpRows'. -/
def dumpRowsUptoCard : Claim7 := { stood := { row := dumpRowsUptoRow, standIns := [], harness := (true, "4b578f9a932e130ac2753065bbafe083f418f795f122a26d69eba1498f10d70a"), looks := false }, kinds := [], alts := [], laidByText := true, laidKinds := [.data, .pinned], laidTests := true, laidLooks := .later }
def DumpRowsUptoCardSaid : Prop := Claim7.holds Tryd.pinned (.plain (OpenSpec.upto dumpRowsSpec)) dumpRowsUptoCard

/-- THE SECOND FORM's CARD OF 'swinglelaw35.ScriptNodes'. -/
def scriptNodesUptoCard : Claim7 := { stood := { row := scriptNodesUptoRow, standIns := [], harness := (true, "4b578f9a932e130ac2753065bbafe083f418f795f122a26d69eba1498f10d70a"), looks := false }, kinds := [], alts := [], laidByText := true, laidKinds := [.data, .pinned], laidTests := true, laidLooks := .later }
def ScriptNodesUptoCardSaid : Prop := Claim7.holds Tryd.pinned (.plain (OpenSpec.upto scriptNodesSpec)) scriptNodesUptoCard

/-- THE SECOND FORM's CARD OF 'swinglelaw35.ScriptParses'. -/
def scriptParsesUptoCard : Claim7 := { stood := { row := scriptParsesUptoRow, standIns := [], harness := (true, "4b578f9a932e130ac2753065bbafe083f418f795f122a26d69eba1498f10d70a"), looks := false }, kinds := [], alts := [], laidByText := true, laidKinds := [.data, .pinned], laidTests := true, laidLooks := .later }
def ScriptParsesUptoCardSaid : Prop := Claim7.holds Tryd.pinned (.plain (OpenSpec.upto scriptParsesSpec)) scriptParsesUptoCard
end Rows
end Go.Proofs.YtigjingielnaoaaDoor
