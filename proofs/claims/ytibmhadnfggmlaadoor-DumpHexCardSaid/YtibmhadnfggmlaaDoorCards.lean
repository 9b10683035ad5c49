/-
  DERIVED. GIVEN WITH THE SEED: THE CARDS: each row of YtibmhadnfggmlaaDoorRows.lean that lists a variable, with what it lists TIED to the program's text (the seventh form; the later family's looks); each row that meets fmt, with fmt's text TOLD by the authors' own Lean function (tested against real Go, not proved from fmt's source: count such statements apart). THE CARD IS WHAT COUNTS. Prove the row's statement (the work); the ties are given (YtibmhadnfggmlaaDoorTie.lean); close each card by the builder's one call (the guide's Derived/Test/ToyasCard.lean, 'card_holds'). Laid BY PROGRAM, IN A SANDBOX (cutbox-door.mjs). By AI agents, Wed Nov 11 2026. No macro, syntax, notation, axiom, sorry.
-/
import Derived.Test.YtibmhadnfggmlaaDoorRows
import GoSem.ClaimSeven
namespace Go.Proofs.YtibmhadnfggmlaaDoor
namespace Rows

/-- THE TIED CARD OF 'swinglelaw43.DumpHex'. -/
def dumpHexCard : Claim7 := { stood := { row := dumpHexRow, standIns := [], harness := (true, "cad1292c3120d8646b6a5108286c260eeba077ffc37d099d4be6515707213775"), looks := false }, kinds := [], alts := [], laidByText := true, laidKinds := [.data, .pinned], laidTests := true, laidLooks := .later }
def DumpHexCardSaid : Prop := Claim7.holds Tryd.pinned (.plain (OpenSpec.ofChange dumpHexSpec)) dumpHexCard

/-- THE TIED CARD OF 'swinglelaw14.NodeTexts'. -/
def nodeTextsCard : Claim7 := { stood := { row := nodeTextsRow, standIns := [], harness := (true, "cad1292c3120d8646b6a5108286c260eeba077ffc37d099d4be6515707213775"), looks := false }, kinds := [], alts := [], laidByText := true, laidKinds := [.data, .pinned], laidTests := true, laidLooks := .later }
def NodeTextsCardSaid : Prop := Claim7.holds Tryd.pinned (.plain (OpenSpec.ofChange nodeTextsSpec)) nodeTextsCard

/-- THE TIED CARD OF 'swinglelaw14.NodeNear'. -/
def nodeNearCard : Claim7 := { stood := { row := nodeNearRow, standIns := [], harness := (true, "cad1292c3120d8646b6a5108286c260eeba077ffc37d099d4be6515707213775"), looks := false }, kinds := [], alts := [], laidByText := true, laidKinds := [.data, .pinned], laidTests := true, laidLooks := .later }
def NodeNearCardSaid : Prop := Claim7.holds Tryd.pinned (.plain (OpenSpec.ofChange nodeNearSpec)) nodeNearCard

/-- THE TIED CARD OF 'swinglelaw19.LocalWrites'. -/
def localWritesCard : Claim7 := { stood := { row := localWritesRow, standIns := [], harness := (true, "cad1292c3120d8646b6a5108286c260eeba077ffc37d099d4be6515707213775"), looks := false }, kinds := [], alts := [], laidByText := true, laidKinds := [.data, .pinned], laidTests := true, laidLooks := .later }
def LocalWritesCardSaid : Prop := Claim7.holds Tryd.pinned (.plain (OpenSpec.ofChange localWritesSpec)) localWritesCard

/-- THE TIED CARD OF 'swinglelaw19.LocalBack'. -/
def localBackCard : Claim7 := { stood := { row := localBackRow, standIns := [], harness := (true, "cad1292c3120d8646b6a5108286c260eeba077ffc37d099d4be6515707213775"), looks := false }, kinds := [], alts := [], laidByText := true, laidKinds := [.data, .pinned], laidTests := true, laidLooks := .later }
def LocalBackCardSaid : Prop := Claim7.holds Tryd.pinned (.plain (OpenSpec.ofChange localBackSpec)) localBackCard

/-- THE TIED CARD OF 'swinglelaw19.LocalReads'. -/
def localReadsCard : Claim7 := { stood := { row := localReadsRow, standIns := [], harness := (true, "cad1292c3120d8646b6a5108286c260eeba077ffc37d099d4be6515707213775"), looks := false }, kinds := [], alts := [], laidByText := true, laidKinds := [.data, .pinned], laidTests := true, laidLooks := .later }
def LocalReadsCardSaid : Prop := Claim7.holds Tryd.pinned (.plain (OpenSpec.ofChange localReadsSpec)) localReadsCard

/-- THE TIED CARD OF 'swinglelaw20.CentralWrites'. -/
def centralWritesCard : Claim7 := { stood := { row := centralWritesRow, standIns := [], harness := (true, "cad1292c3120d8646b6a5108286c260eeba077ffc37d099d4be6515707213775"), looks := false }, kinds := [], alts := [], laidByText := true, laidKinds := [.data, .pinned], laidTests := true, laidLooks := .later }
def CentralWritesCardSaid : Prop := Claim7.holds Tryd.pinned (.plain (OpenSpec.ofChange centralWritesSpec)) centralWritesCard

/-- THE TIED CARD OF 'swinglelaw20.CentralReads'. -/
def centralReadsCard : Claim7 := { stood := { row := centralReadsRow, standIns := [], harness := (true, "cad1292c3120d8646b6a5108286c260eeba077ffc37d099d4be6515707213775"), looks := false }, kinds := [], alts := [], laidByText := true, laidKinds := [.data, .pinned], laidTests := true, laidLooks := .later }
def CentralReadsCardSaid : Prop := Claim7.holds Tryd.pinned (.plain (OpenSpec.ofChange centralReadsSpec)) centralReadsCard

/-- THE TIED CARD OF 'swinglelaw20.CentralBack'. -/
def centralBackCard : Claim7 := { stood := { row := centralBackRow, standIns := [], harness := (true, "cad1292c3120d8646b6a5108286c260eeba077ffc37d099d4be6515707213775"), looks := false }, kinds := [], alts := [], laidByText := true, laidKinds := [.data, .pinned], laidTests := true, laidLooks := .later }
def CentralBackCardSaid : Prop := Claim7.holds Tryd.pinned (.plain (OpenSpec.ofChange centralBackSpec)) centralBackCard

/-- THE SECOND FORM's CARD OF 'swinglelaw43.DumpHex'. -/
def dumpHexUptoCard : Claim7 := { stood := { row := dumpHexUptoRow, standIns := [], harness := (true, "cad1292c3120d8646b6a5108286c260eeba077ffc37d099d4be6515707213775"), looks := false }, kinds := [], alts := [], laidByText := true, laidKinds := [.data, .pinned], laidTests := true, laidLooks := .later }
def DumpHexUptoCardSaid : Prop := Claim7.holds Tryd.pinned (.plain (OpenSpec.upto dumpHexSpec)) dumpHexUptoCard

/-- THE SECOND FORM's CARD OF 'swinglelaw14.NodeTexts'. -/
def nodeTextsUptoCard : Claim7 := { stood := { row := nodeTextsUptoRow, standIns := [], harness := (true, "cad1292c3120d8646b6a5108286c260eeba077ffc37d099d4be6515707213775"), looks := false }, kinds := [], alts := [], laidByText := true, laidKinds := [.data, .pinned], laidTests := true, laidLooks := .later }
def NodeTextsUptoCardSaid : Prop := Claim7.holds Tryd.pinned (.plain (OpenSpec.upto nodeTextsSpec)) nodeTextsUptoCard

/-- THE SECOND FORM's CARD OF 'swinglelaw14.NodeNear'. -/
def nodeNearUptoCard : Claim7 := { stood := { row := nodeNearUptoRow, standIns := [], harness := (true, "cad1292c3120d8646b6a5108286c260eeba077ffc37d099d4be6515707213775"), looks := false }, kinds := [], alts := [], laidByText := true, laidKinds := [.data, .pinned], laidTests := true, laidLooks := .later }
def NodeNearUptoCardSaid : Prop := Claim7.holds Tryd.pinned (.plain (OpenSpec.upto nodeNearSpec)) nodeNearUptoCard

/-- THE SECOND FORM's CARD OF 'swinglelaw19.LocalWrites'. -/
def localWritesUptoCard : Claim7 := { stood := { row := localWritesUptoRow, standIns := [], harness := (true, "cad1292c3120d8646b6a5108286c260eeba077ffc37d099d4be6515707213775"), looks := false }, kinds := [], alts := [], laidByText := true, laidKinds := [.data, .pinned], laidTests := true, laidLooks := .later }
def LocalWritesUptoCardSaid : Prop := Claim7.holds Tryd.pinned (.plain (OpenSpec.upto localWritesSpec)) localWritesUptoCard

/-- THE SECOND FORM's CARD OF 'swinglelaw19.LocalBack'. -/
def localBackUptoCard : Claim7 := { stood := { row := localBackUptoRow, standIns := [], harness := (true, "cad1292c3120d8646b6a5108286c260eeba077ffc37d099d4be6515707213775"), looks := false }, kinds := [], alts := [], laidByText := true, laidKinds := [.data, .pinned], laidTests := true, laidLooks := .later }
def LocalBackUptoCardSaid : Prop := Claim7.holds Tryd.pinned (.plain (OpenSpec.upto localBackSpec)) localBackUptoCard

/-- THE SECOND FORM's CARD OF 'swinglelaw19.LocalReads'. -/
def localReadsUptoCard : Claim7 := { stood := { row := localReadsUptoRow, standIns := [], harness := (true, "cad1292c3120d8646b6a5108286c260eeba077ffc37d099d4be6515707213775"), looks := false }, kinds := [], alts := [], laidByText := true, laidKinds := [.data, .pinned], laidTests := true, laidLooks := .later }
def LocalReadsUptoCardSaid : Prop := Claim7.holds Tryd.pinned (.plain (OpenSpec.upto localReadsSpec)) localReadsUptoCard

/-- THE SECOND FORM's CARD OF 'swinglelaw20.CentralWrites'. -/
def centralWritesUptoCard : Claim7 := { stood := { row := centralWritesUptoRow, standIns := [], harness := (true, "cad1292c3120d8646b6a5108286c260eeba077ffc37d099d4be6515707213775"), looks := false }, kinds := [], alts := [], laidByText := true, laidKinds := [.data, .pinned], laidTests := true, laidLooks := .later }
def CentralWritesUptoCardSaid : Prop := Claim7.holds Tryd.pinned (.plain (OpenSpec.upto centralWritesSpec)) centralWritesUptoCard

/-- THE SECOND FORM's CARD OF 'swinglelaw20.CentralReads'. -/
def centralReadsUptoCard : Claim7 := { stood := { row := centralReadsUptoRow, standIns := [], harness := (true, "cad1292c3120d8646b6a5108286c260eeba077ffc37d099d4be6515707213775"), looks := false }, kinds := [], alts := [], laidByText := true, laidKinds := [.data, .pinned], laidTests := true, laidLooks := .later }
def CentralReadsUptoCardSaid : Prop := Claim7.holds Tryd.pinned (.plain (OpenSpec.upto centralReadsSpec)) centralReadsUptoCard

/-- THE SECOND FORM's CARD OF 'swinglelaw20.CentralBack'. -/
def centralBackUptoCard : Claim7 := { stood := { row := centralBackUptoRow, standIns := [], harness := (true, "cad1292c3120d8646b6a5108286c260eeba077ffc37d099d4be6515707213775"), looks := false }, kinds := [], alts := [], laidByText := true, laidKinds := [.data, .pinned], laidTests := true, laidLooks := .later }
def CentralBackUptoCardSaid : Prop := Claim7.holds Tryd.pinned (.plain (OpenSpec.upto centralBackSpec)) centralBackUptoCard
end Rows
end Go.Proofs.YtibmhadnfggmlaaDoor
