/-
  NARROWER THAN 'FOR EVERY INPUT', by the rows' own cells (each row's printed sentence says how): DumpHex: laid · NodeTexts: laid · NodeNear: laid · LocalWrites: laid · LocalBack: laid · LocalReads: laid · CentralWrites: laid · CentralReads: laid · CentralBack: laid.
  DERIVED. THE GIVEN ROWS OF THIS SEAT. 9 by the template 'for every input the law returns true; each argument reads behind the call as it read before'; 0 by the template 'total and deterministic' (their statements: YtibmhadnfggmlaaDoorTotals.lean).
  GIVEN WITH THE SEED: the statements are not yours to turn. If you find one false, say at which input.
  Laid BY PROGRAM, IN A SANDBOX (cutbox-rows.mjs): the forced cells as the released guide's own fill.sh prints them over the translation 6264ae4a4a59223a… (all of the seat's roots in one cut). By AI agents, Wed Nov 11 2026. No macro, syntax, notation, axiom, sorry.
-/
import Derived.Test.YtibmhadnfggmlaaDoorChecked
import GoSem.PinnedTables
import GoSem.Claim
import GoSem.ClaimJoined
import GoSem.ClaimMapViews
import Derived.JoinedTies
import Derived.KernelRfl
namespace Go.Proofs.YtibmhadnfggmlaaDoor
/- THE CELL 'sum', in the pinned program and in every row, IS THE sha256 OF THE DUMP (.gsa) THAT YtibmhadnfggmlaaDoorProg.lean LOADS. Nothing in Lean hashes anything: it is a label: what it is worth is what the hold of that sum in a sandbox is worth. -/
noncomputable def Tryd.pinned : Pinned := { name := "ytibmhadnfggmlaadoor", sum := "6264ae4a4a59223abc45c390912c65e455de72b0294b1acf034afa2a644bff6f", checked := Tryd.checked }
namespace Rows
def none {H : Type} : Left H := { results := [], args := [] }

/- WHAT THE LISTED PACKAGE-LEVEL VARIABLES READ AS WHEN THE CALL BEGINS. Each datum BY PROGRAM (the guide's laid-datum.mjs) off the statement by which the dump's own 'gosem.cut.vars' lays the variable. In a bare row this is a premise. The card (YtibmhadnfggmlaaDoorCards.lean) ties it to the program's text. -/
def laid_unicode_utf8_acceptRanges {H : Type} : DataW H := .agg [.agg [.lit (.int .u8 128), .lit (.int .u8 191)], .agg [.lit (.int .u8 160), .lit (.int .u8 191)], .agg [.lit (.int .u8 128), .lit (.int .u8 159)], .agg [.lit (.int .u8 144), .lit (.int .u8 191)], .agg [.lit (.int .u8 128), .lit (.int .u8 143)], .agg [.lit (.int .u8 0), .lit (.int .u8 0)], .agg [.lit (.int .u8 0), .lit (.int .u8 0)], .agg [.lit (.int .u8 0), .lit (.int .u8 0)], .agg [.lit (.int .u8 0), .lit (.int .u8 0)], .agg [.lit (.int .u8 0), .lit (.int .u8 0)], .agg [.lit (.int .u8 0), .lit (.int .u8 0)], .agg [.lit (.int .u8 0), .lit (.int .u8 0)], .agg [.lit (.int .u8 0), .lit (.int .u8 0)], .agg [.lit (.int .u8 0), .lit (.int .u8 0)], .agg [.lit (.int .u8 0), .lit (.int .u8 0)], .agg [.lit (.int .u8 0), .lit (.int .u8 0)]]
/-- One of Go's own tables, pinned by name: the form's constant. -/
def laid_unicode_utf8_first : DataW Unit := Go.Pinned.utf8First

/-- 'swinglelaw43.DumpHex': WHATEVER THE INPUT: true; the input reads as it did. -/
def dumpHexSpec : ChangeSpec := { name := "dumpHex", fn := fun _ => fun
  | [d1, d2, d3] => { results := [.lit (.bool true)], args := [d1, d2, d3] }
  | _ => none }
def dumpHexRow : OpenClaim := { program := "ytibmhadnfggmlaadoor", sum := "6264ae4a4a59223abc45c390912c65e455de72b0294b1acf034afa2a644bff6f", func := "swingle/swinglelaw43.DumpHex", spec := "dumpHex", inPlace := ["internal/abi.NoEscape", "internal/bytealg.MakeNoZero", "internal/bytealg.CountString", "internal/bytealg.IndexByteString", "internal/bytealg.IndexString"], unfollowed := true, recurses := true, named := ["unicode/utf8.first", "unicode/utf8.acceptRanges", "internal/bytealg.MaxLen"], apart := false, laid := [("unicode/utf8.acceptRanges", laid_unicode_utf8_acceptRanges), ("unicode/utf8.first", laid_unicode_utf8_first)] }
def DumpHexSaid : Prop := dumpHexRow.holds Tryd.pinned (OpenSpec.ofChange dumpHexSpec)

/-- ITS FALSE NEIGHBOUR: 'it returns false'. Refute it at one input. -/
def dumpHexWrong : ChangeSpec := { name := "dumpHex", fn := fun _ => fun
  | [d1, d2, d3] => { results := [.lit (.bool false)], args := [d1, d2, d3] }
  | _ => none }
def DumpHexWrongFalsely : Prop := dumpHexRow.holds Tryd.pinned (OpenSpec.ofChange dumpHexWrong)

/-- 'swinglelaw14.NodeTexts': WHATEVER THE INPUT: true; the input reads as it did. -/
def nodeTextsSpec : ChangeSpec := { name := "nodeTexts", fn := fun _ => fun
  | [d1, d2, d3] => { results := [.lit (.bool true)], args := [d1, d2, d3] }
  | _ => none }
def nodeTextsRow : OpenClaim := { program := "ytibmhadnfggmlaadoor", sum := "6264ae4a4a59223abc45c390912c65e455de72b0294b1acf034afa2a644bff6f", func := "swingle/swinglelaw14.NodeTexts", spec := "nodeTexts", inPlace := ["internal/bytealg.CountString", "internal/bytealg.IndexByteString", "internal/bytealg.IndexString", "internal/abi.NoEscape", "internal/bytealg.MakeNoZero"], unfollowed := true, recurses := true, named := ["unicode/utf8.first", "unicode/utf8.acceptRanges", "internal/bytealg.MaxLen"], apart := false, laid := [("unicode/utf8.acceptRanges", laid_unicode_utf8_acceptRanges), ("unicode/utf8.first", laid_unicode_utf8_first)] }
def NodeTextsSaid : Prop := nodeTextsRow.holds Tryd.pinned (OpenSpec.ofChange nodeTextsSpec)

/-- ITS FALSE NEIGHBOUR: 'it returns false'. Refute it at one input. -/
def nodeTextsWrong : ChangeSpec := { name := "nodeTexts", fn := fun _ => fun
  | [d1, d2, d3] => { results := [.lit (.bool false)], args := [d1, d2, d3] }
  | _ => none }
def NodeTextsWrongFalsely : Prop := nodeTextsRow.holds Tryd.pinned (OpenSpec.ofChange nodeTextsWrong)

/-- 'swinglelaw14.NodeNear': WHATEVER THE INPUT: true; the input reads as it did. -/
def nodeNearSpec : ChangeSpec := { name := "nodeNear", fn := fun _ => fun
  | [d1, d2] => { results := [.lit (.bool true)], args := [d1, d2] }
  | _ => none }
def nodeNearRow : OpenClaim := { program := "ytibmhadnfggmlaadoor", sum := "6264ae4a4a59223abc45c390912c65e455de72b0294b1acf034afa2a644bff6f", func := "swingle/swinglelaw14.NodeNear", spec := "nodeNear", inPlace := ["internal/abi.NoEscape", "internal/bytealg.MakeNoZero", "internal/bytealg.CountString", "internal/bytealg.IndexByteString", "internal/bytealg.IndexString"], unfollowed := true, recurses := true, named := ["unicode/utf8.first", "unicode/utf8.acceptRanges", "internal/bytealg.MaxLen"], apart := false, laid := [("unicode/utf8.acceptRanges", laid_unicode_utf8_acceptRanges), ("unicode/utf8.first", laid_unicode_utf8_first)] }
def NodeNearSaid : Prop := nodeNearRow.holds Tryd.pinned (OpenSpec.ofChange nodeNearSpec)

/-- ITS FALSE NEIGHBOUR: 'it returns false'. Refute it at one input. -/
def nodeNearWrong : ChangeSpec := { name := "nodeNear", fn := fun _ => fun
  | [d1, d2] => { results := [.lit (.bool false)], args := [d1, d2] }
  | _ => none }
def NodeNearWrongFalsely : Prop := nodeNearRow.holds Tryd.pinned (OpenSpec.ofChange nodeNearWrong)

/-- 'swinglelaw19.LocalWrites': WHATEVER THE INPUT: true; the input reads as it did. -/
def localWritesSpec : ChangeSpec := { name := "localWrites", fn := fun _ => fun
  | [d1, d2] => { results := [.lit (.bool true)], args := [d1, d2] }
  | _ => none }
def localWritesRow : OpenClaim := { program := "ytibmhadnfggmlaadoor", sum := "6264ae4a4a59223abc45c390912c65e455de72b0294b1acf034afa2a644bff6f", func := "swingle/swinglelaw19.LocalWrites", spec := "localWrites", inPlace := ["internal/bytealg.IndexByteString", "internal/bytealg.IndexString", "internal/abi.NoEscape"], unfollowed := true, recurses := true, named := ["internal/bytealg.MaxLen", "unicode/utf8.first", "unicode/utf8.acceptRanges"], apart := false, laid := [("unicode/utf8.acceptRanges", laid_unicode_utf8_acceptRanges), ("unicode/utf8.first", laid_unicode_utf8_first)] }
def LocalWritesSaid : Prop := localWritesRow.holds Tryd.pinned (OpenSpec.ofChange localWritesSpec)

/-- ITS FALSE NEIGHBOUR: 'it returns false'. Refute it at one input. -/
def localWritesWrong : ChangeSpec := { name := "localWrites", fn := fun _ => fun
  | [d1, d2] => { results := [.lit (.bool false)], args := [d1, d2] }
  | _ => none }
def LocalWritesWrongFalsely : Prop := localWritesRow.holds Tryd.pinned (OpenSpec.ofChange localWritesWrong)

/-- 'swinglelaw19.LocalBack': WHATEVER THE INPUT: true; the input reads as it did. -/
def localBackSpec : ChangeSpec := { name := "localBack", fn := fun _ => fun
  | [d1, d2, d3] => { results := [.lit (.bool true)], args := [d1, d2, d3] }
  | _ => none }
def localBackRow : OpenClaim := { program := "ytibmhadnfggmlaadoor", sum := "6264ae4a4a59223abc45c390912c65e455de72b0294b1acf034afa2a644bff6f", func := "swingle/swinglelaw19.LocalBack", spec := "localBack", inPlace := ["internal/bytealg.IndexByteString", "internal/bytealg.IndexString", "internal/abi.NoEscape"], unfollowed := true, recurses := true, named := ["internal/bytealg.MaxLen", "unicode/utf8.first", "unicode/utf8.acceptRanges"], apart := false, laid := [("unicode/utf8.acceptRanges", laid_unicode_utf8_acceptRanges), ("unicode/utf8.first", laid_unicode_utf8_first)] }
def LocalBackSaid : Prop := localBackRow.holds Tryd.pinned (OpenSpec.ofChange localBackSpec)

/-- ITS FALSE NEIGHBOUR: 'it returns false'. Refute it at one input. -/
def localBackWrong : ChangeSpec := { name := "localBack", fn := fun _ => fun
  | [d1, d2, d3] => { results := [.lit (.bool false)], args := [d1, d2, d3] }
  | _ => none }
def LocalBackWrongFalsely : Prop := localBackRow.holds Tryd.pinned (OpenSpec.ofChange localBackWrong)

/-- 'swinglelaw19.LocalReads': WHATEVER THE INPUT: true; the input reads as it did. -/
def localReadsSpec : ChangeSpec := { name := "localReads", fn := fun _ => fun
  | [d1, d2] => { results := [.lit (.bool true)], args := [d1, d2] }
  | _ => none }
def localReadsRow : OpenClaim := { program := "ytibmhadnfggmlaadoor", sum := "6264ae4a4a59223abc45c390912c65e455de72b0294b1acf034afa2a644bff6f", func := "swingle/swinglelaw19.LocalReads", spec := "localReads", inPlace := ["internal/bytealg.IndexByteString", "internal/bytealg.IndexString", "internal/abi.NoEscape"], unfollowed := true, recurses := true, named := ["internal/bytealg.MaxLen", "unicode/utf8.first", "unicode/utf8.acceptRanges"], apart := false, laid := [("unicode/utf8.acceptRanges", laid_unicode_utf8_acceptRanges), ("unicode/utf8.first", laid_unicode_utf8_first)] }
def LocalReadsSaid : Prop := localReadsRow.holds Tryd.pinned (OpenSpec.ofChange localReadsSpec)

/-- ITS FALSE NEIGHBOUR: 'it returns false'. Refute it at one input. -/
def localReadsWrong : ChangeSpec := { name := "localReads", fn := fun _ => fun
  | [d1, d2] => { results := [.lit (.bool false)], args := [d1, d2] }
  | _ => none }
def LocalReadsWrongFalsely : Prop := localReadsRow.holds Tryd.pinned (OpenSpec.ofChange localReadsWrong)

/-- 'swinglelaw20.CentralWrites': WHATEVER THE INPUT: true; the input reads as it did. -/
def centralWritesSpec : ChangeSpec := { name := "centralWrites", fn := fun _ => fun
  | [d] => { results := [.lit (.bool true)], args := [d] }
  | _ => none }
def centralWritesRow : OpenClaim := { program := "ytibmhadnfggmlaadoor", sum := "6264ae4a4a59223abc45c390912c65e455de72b0294b1acf034afa2a644bff6f", func := "swingle/swinglelaw20.CentralWrites", spec := "centralWrites", inPlace := ["internal/bytealg.IndexByteString", "internal/bytealg.IndexString", "internal/abi.NoEscape"], unfollowed := true, recurses := true, named := ["internal/bytealg.MaxLen", "unicode/utf8.first", "unicode/utf8.acceptRanges"], apart := false, laid := [("unicode/utf8.acceptRanges", laid_unicode_utf8_acceptRanges), ("unicode/utf8.first", laid_unicode_utf8_first)] }
def CentralWritesSaid : Prop := centralWritesRow.holds Tryd.pinned (OpenSpec.ofChange centralWritesSpec)

/-- ITS FALSE NEIGHBOUR: 'it returns false'. Refute it at one input. -/
def centralWritesWrong : ChangeSpec := { name := "centralWrites", fn := fun _ => fun
  | [d] => { results := [.lit (.bool false)], args := [d] }
  | _ => none }
def CentralWritesWrongFalsely : Prop := centralWritesRow.holds Tryd.pinned (OpenSpec.ofChange centralWritesWrong)

/-- 'swinglelaw20.CentralReads': WHATEVER THE INPUT: true; the input reads as it did. -/
def centralReadsSpec : ChangeSpec := { name := "centralReads", fn := fun _ => fun
  | [d1, d2, d3] => { results := [.lit (.bool true)], args := [d1, d2, d3] }
  | _ => none }
def centralReadsRow : OpenClaim := { program := "ytibmhadnfggmlaadoor", sum := "6264ae4a4a59223abc45c390912c65e455de72b0294b1acf034afa2a644bff6f", func := "swingle/swinglelaw20.CentralReads", spec := "centralReads", inPlace := ["internal/bytealg.IndexByteString", "internal/bytealg.IndexString", "internal/abi.NoEscape"], unfollowed := true, recurses := true, named := ["internal/bytealg.MaxLen", "unicode/utf8.first", "unicode/utf8.acceptRanges"], apart := false, laid := [("unicode/utf8.acceptRanges", laid_unicode_utf8_acceptRanges), ("unicode/utf8.first", laid_unicode_utf8_first)] }
def CentralReadsSaid : Prop := centralReadsRow.holds Tryd.pinned (OpenSpec.ofChange centralReadsSpec)

/-- ITS FALSE NEIGHBOUR: 'it returns false'. Refute it at one input. -/
def centralReadsWrong : ChangeSpec := { name := "centralReads", fn := fun _ => fun
  | [d1, d2, d3] => { results := [.lit (.bool false)], args := [d1, d2, d3] }
  | _ => none }
def CentralReadsWrongFalsely : Prop := centralReadsRow.holds Tryd.pinned (OpenSpec.ofChange centralReadsWrong)

/-- 'swinglelaw20.CentralBack': WHATEVER THE INPUT: true; the input reads as it did. -/
def centralBackSpec : ChangeSpec := { name := "centralBack", fn := fun _ => fun
  | [d] => { results := [.lit (.bool true)], args := [d] }
  | _ => none }
def centralBackRow : OpenClaim := { program := "ytibmhadnfggmlaadoor", sum := "6264ae4a4a59223abc45c390912c65e455de72b0294b1acf034afa2a644bff6f", func := "swingle/swinglelaw20.CentralBack", spec := "centralBack", inPlace := ["internal/bytealg.IndexByteString", "internal/bytealg.IndexString", "internal/abi.NoEscape"], unfollowed := true, recurses := true, named := ["internal/bytealg.MaxLen", "unicode/utf8.first", "unicode/utf8.acceptRanges"], apart := false, laid := [("unicode/utf8.acceptRanges", laid_unicode_utf8_acceptRanges), ("unicode/utf8.first", laid_unicode_utf8_first)] }
def CentralBackSaid : Prop := centralBackRow.holds Tryd.pinned (OpenSpec.ofChange centralBackSpec)

/-- ITS FALSE NEIGHBOUR: 'it returns false'. Refute it at one input. -/
def centralBackWrong : ChangeSpec := { name := "centralBack", fn := fun _ => fun
  | [d] => { results := [.lit (.bool false)], args := [d] }
  | _ => none }
def CentralBackWrongFalsely : Prop := centralBackRow.holds Tryd.pinned (OpenSpec.ofChange centralBackWrong)

/- THE SECOND FORM. 'bulk': how many values and letters a reading holds, each counted each time it is reached (what is shared counts as often as it is met; a slice's spare places count too). A statement '..UptoSaid' is the law's where the arguments, and the package variables that the reading takes, are together of bulk at most 1048576: NARROWER than '..Said'. Prove '..Said' where nothing that the law and all that it calls make is longer than what came in: it says more and counts as full. Else prove '..UptoSaid'. A law counts once. -/
mutual
def uptoBulk {H : Type} : DataW H → Nat
  | .lit (.string bytes) => bytes.length + 1
  | .lit _ => 1
  | .nil => 1
  | .ptr d => uptoBulk d + 1
  | .slice elems spare => uptoBulkAll elems + uptoBulkAll spare + 1
  | .agg parts => uptoBulkAll parts + 1
  | .iface _ d => uptoBulk d + 1
  | .map entries => uptoBulkEntries entries + 1
  | .held _ => 1
def uptoBulkAll {H : Type} : List (DataW H) → Nat
  | [] => 0
  | d :: r => uptoBulk d + uptoBulkAll r
def uptoBulkEntries {H : Type} : List (Lit × DataW H) → Nat
  | [] => 0
  | x :: r => uptoBulkEntry x + uptoBulkEntries r
def uptoBulkEntry {H : Type} : Lit × DataW H → Nat
  | (.string bytes, d) => bytes.length + uptoBulk d + 1
  | (_, d) => uptoBulk d + 1
 end
def uptoSmall : (H : Type) → List (DataW H) → Bool := fun _ ds => decide (uptoBulkAll ds ≤ 1048576)
def OpenSpec.upto (s : _root_.Go.ChangeSpec) : _root_.Go.OpenSpec := { _root_.Go.OpenSpec.ofChange s with cond := some uptoSmall }

/-- 'swinglelaw43.DumpHex', WHERE WHAT IT READS IS OF BULK AT MOST 1048576: true; the input reads as it did. -/
def dumpHexUptoRow : OpenClaim := { program := "ytibmhadnfggmlaadoor", sum := "6264ae4a4a59223abc45c390912c65e455de72b0294b1acf034afa2a644bff6f", func := "swingle/swinglelaw43.DumpHex", spec := "dumpHex", inPlace := ["internal/abi.NoEscape", "internal/bytealg.MakeNoZero", "internal/bytealg.CountString", "internal/bytealg.IndexByteString", "internal/bytealg.IndexString"], unfollowed := true, recurses := true, named := ["unicode/utf8.first", "unicode/utf8.acceptRanges", "internal/bytealg.MaxLen"], apart := false, laid := [("unicode/utf8.acceptRanges", laid_unicode_utf8_acceptRanges), ("unicode/utf8.first", laid_unicode_utf8_first)], narrowed := true }
def DumpHexUptoSaid : Prop := dumpHexUptoRow.holds Tryd.pinned (OpenSpec.upto dumpHexSpec)

/-- 'swinglelaw14.NodeTexts', WHERE WHAT IT READS IS OF BULK AT MOST 1048576: true; the input reads as it did. -/
def nodeTextsUptoRow : OpenClaim := { program := "ytibmhadnfggmlaadoor", sum := "6264ae4a4a59223abc45c390912c65e455de72b0294b1acf034afa2a644bff6f", func := "swingle/swinglelaw14.NodeTexts", spec := "nodeTexts", inPlace := ["internal/bytealg.CountString", "internal/bytealg.IndexByteString", "internal/bytealg.IndexString", "internal/abi.NoEscape", "internal/bytealg.MakeNoZero"], unfollowed := true, recurses := true, named := ["unicode/utf8.first", "unicode/utf8.acceptRanges", "internal/bytealg.MaxLen"], apart := false, laid := [("unicode/utf8.acceptRanges", laid_unicode_utf8_acceptRanges), ("unicode/utf8.first", laid_unicode_utf8_first)], narrowed := true }
def NodeTextsUptoSaid : Prop := nodeTextsUptoRow.holds Tryd.pinned (OpenSpec.upto nodeTextsSpec)

/-- 'swinglelaw14.NodeNear', WHERE WHAT IT READS IS OF BULK AT MOST 1048576: true; the input reads as it did. -/
def nodeNearUptoRow : OpenClaim := { program := "ytibmhadnfggmlaadoor", sum := "6264ae4a4a59223abc45c390912c65e455de72b0294b1acf034afa2a644bff6f", func := "swingle/swinglelaw14.NodeNear", spec := "nodeNear", inPlace := ["internal/abi.NoEscape", "internal/bytealg.MakeNoZero", "internal/bytealg.CountString", "internal/bytealg.IndexByteString", "internal/bytealg.IndexString"], unfollowed := true, recurses := true, named := ["unicode/utf8.first", "unicode/utf8.acceptRanges", "internal/bytealg.MaxLen"], apart := false, laid := [("unicode/utf8.acceptRanges", laid_unicode_utf8_acceptRanges), ("unicode/utf8.first", laid_unicode_utf8_first)], narrowed := true }
def NodeNearUptoSaid : Prop := nodeNearUptoRow.holds Tryd.pinned (OpenSpec.upto nodeNearSpec)

/-- 'swinglelaw19.LocalWrites', WHERE WHAT IT READS IS OF BULK AT MOST 1048576: true; the input reads as it did. -/
def localWritesUptoRow : OpenClaim := { program := "ytibmhadnfggmlaadoor", sum := "6264ae4a4a59223abc45c390912c65e455de72b0294b1acf034afa2a644bff6f", func := "swingle/swinglelaw19.LocalWrites", spec := "localWrites", inPlace := ["internal/bytealg.IndexByteString", "internal/bytealg.IndexString", "internal/abi.NoEscape"], unfollowed := true, recurses := true, named := ["internal/bytealg.MaxLen", "unicode/utf8.first", "unicode/utf8.acceptRanges"], apart := false, laid := [("unicode/utf8.acceptRanges", laid_unicode_utf8_acceptRanges), ("unicode/utf8.first", laid_unicode_utf8_first)], narrowed := true }
def LocalWritesUptoSaid : Prop := localWritesUptoRow.holds Tryd.pinned (OpenSpec.upto localWritesSpec)

/-- 'swinglelaw19.LocalBack', WHERE WHAT IT READS IS OF BULK AT MOST 1048576: true; the input reads as it did. -/
def localBackUptoRow : OpenClaim := { program := "ytibmhadnfggmlaadoor", sum := "6264ae4a4a59223abc45c390912c65e455de72b0294b1acf034afa2a644bff6f", func := "swingle/swinglelaw19.LocalBack", spec := "localBack", inPlace := ["internal/bytealg.IndexByteString", "internal/bytealg.IndexString", "internal/abi.NoEscape"], unfollowed := true, recurses := true, named := ["internal/bytealg.MaxLen", "unicode/utf8.first", "unicode/utf8.acceptRanges"], apart := false, laid := [("unicode/utf8.acceptRanges", laid_unicode_utf8_acceptRanges), ("unicode/utf8.first", laid_unicode_utf8_first)], narrowed := true }
def LocalBackUptoSaid : Prop := localBackUptoRow.holds Tryd.pinned (OpenSpec.upto localBackSpec)

/-- 'swinglelaw19.LocalReads', WHERE WHAT IT READS IS OF BULK AT MOST 1048576: true; the input reads as it did. -/
def localReadsUptoRow : OpenClaim := { program := "ytibmhadnfggmlaadoor", sum := "6264ae4a4a59223abc45c390912c65e455de72b0294b1acf034afa2a644bff6f", func := "swingle/swinglelaw19.LocalReads", spec := "localReads", inPlace := ["internal/bytealg.IndexByteString", "internal/bytealg.IndexString", "internal/abi.NoEscape"], unfollowed := true, recurses := true, named := ["internal/bytealg.MaxLen", "unicode/utf8.first", "unicode/utf8.acceptRanges"], apart := false, laid := [("unicode/utf8.acceptRanges", laid_unicode_utf8_acceptRanges), ("unicode/utf8.first", laid_unicode_utf8_first)], narrowed := true }
def LocalReadsUptoSaid : Prop := localReadsUptoRow.holds Tryd.pinned (OpenSpec.upto localReadsSpec)

/-- 'swinglelaw20.CentralWrites', WHERE WHAT IT READS IS OF BULK AT MOST 1048576: true; the input reads as it did. -/
def centralWritesUptoRow : OpenClaim := { program := "ytibmhadnfggmlaadoor", sum := "6264ae4a4a59223abc45c390912c65e455de72b0294b1acf034afa2a644bff6f", func := "swingle/swinglelaw20.CentralWrites", spec := "centralWrites", inPlace := ["internal/bytealg.IndexByteString", "internal/bytealg.IndexString", "internal/abi.NoEscape"], unfollowed := true, recurses := true, named := ["internal/bytealg.MaxLen", "unicode/utf8.first", "unicode/utf8.acceptRanges"], apart := false, laid := [("unicode/utf8.acceptRanges", laid_unicode_utf8_acceptRanges), ("unicode/utf8.first", laid_unicode_utf8_first)], narrowed := true }
def CentralWritesUptoSaid : Prop := centralWritesUptoRow.holds Tryd.pinned (OpenSpec.upto centralWritesSpec)

/-- 'swinglelaw20.CentralReads', WHERE WHAT IT READS IS OF BULK AT MOST 1048576: true; the input reads as it did. -/
def centralReadsUptoRow : OpenClaim := { program := "ytibmhadnfggmlaadoor", sum := "6264ae4a4a59223abc45c390912c65e455de72b0294b1acf034afa2a644bff6f", func := "swingle/swinglelaw20.CentralReads", spec := "centralReads", inPlace := ["internal/bytealg.IndexByteString", "internal/bytealg.IndexString", "internal/abi.NoEscape"], unfollowed := true, recurses := true, named := ["internal/bytealg.MaxLen", "unicode/utf8.first", "unicode/utf8.acceptRanges"], apart := false, laid := [("unicode/utf8.acceptRanges", laid_unicode_utf8_acceptRanges), ("unicode/utf8.first", laid_unicode_utf8_first)], narrowed := true }
def CentralReadsUptoSaid : Prop := centralReadsUptoRow.holds Tryd.pinned (OpenSpec.upto centralReadsSpec)

/-- 'swinglelaw20.CentralBack', WHERE WHAT IT READS IS OF BULK AT MOST 1048576: true; the input reads as it did. -/
def centralBackUptoRow : OpenClaim := { program := "ytibmhadnfggmlaadoor", sum := "6264ae4a4a59223abc45c390912c65e455de72b0294b1acf034afa2a644bff6f", func := "swingle/swinglelaw20.CentralBack", spec := "centralBack", inPlace := ["internal/bytealg.IndexByteString", "internal/bytealg.IndexString", "internal/abi.NoEscape"], unfollowed := true, recurses := true, named := ["internal/bytealg.MaxLen", "unicode/utf8.first", "unicode/utf8.acceptRanges"], apart := false, laid := [("unicode/utf8.acceptRanges", laid_unicode_utf8_acceptRanges), ("unicode/utf8.first", laid_unicode_utf8_first)], narrowed := true }
def CentralBackUptoSaid : Prop := centralBackUptoRow.holds Tryd.pinned (OpenSpec.upto centralBackSpec)

end Rows
end Go.Proofs.YtibmhadnfggmlaaDoor
