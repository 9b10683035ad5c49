/-
  No cell of these rows narrows 'for every input' (looked for: loops, veiled, ifaces, maps, wideKeys, modest, calm, conditions, laid).
  DERIVED. THE GIVEN ROWS OF THIS SEAT. 4 by the template 'for every input the law returns true; each argument reads behind the call as it read before'; 0 by the template 'total and deterministic' (their statements: YtdehkaknbmbieaaGreatTotals.lean).
  GIVEN WITH THE SEED: the statements are not yours to turn. If you find one false, say at which input.
  Laid BY PROGRAM, IN A SANDBOX (cutbox-rows.mjs): the forced cells as the released guide's own fill.sh prints them over the translation 3a6753df3406abb3… (all of the seat's roots in one cut). By AI agents, Wed Nov 11 2026. No macro, syntax, notation, axiom, sorry.
-/
import Derived.Test.YtdehkaknbmbieaaGreatChecked
import GoSem.Claim
import GoSem.ClaimJoined
import GoSem.ClaimMapViews
import Derived.JoinedTies
import Derived.KernelRfl
namespace Go.Proofs.YtdehkaknbmbieaaGreat
/- THE CELL 'sum', in the pinned program and in every row, IS THE sha256 OF THE DUMP (.gsa) THAT YtdehkaknbmbieaaGreatProg.lean LOADS. Nothing in Lean hashes anything: it is a label: what it is worth is what the hold of that sum in a sandbox is worth. -/
noncomputable def Tryz.pinned : Pinned := { name := "ytdehkaknbmbieaagreat", sum := "3a6753df3406abb3b60f3c7ee32ddcfa0601c7912385019f029780014822e5b2", checked := Tryz.checked }
namespace Rows
def none {H : Type} : Left H := { results := [], args := [] }

/-- 'swinglelaw10.BlockWrites': WHATEVER THE INPUT: true; the input reads as it did. -/
def blockWritesSpec : ChangeSpec := { name := "blockWrites", fn := fun _ => fun
  | [d1, d2, d3] => { results := [.lit (.bool true)], args := [d1, d2, d3] }
  | _ => none }
def blockWritesRow : OpenClaim := { program := "ytdehkaknbmbieaagreat", sum := "3a6753df3406abb3b60f3c7ee32ddcfa0601c7912385019f029780014822e5b2", func := "swingle/swinglelaw10.BlockWrites", spec := "blockWrites", unfollowed := true, recurses := true, plainKeys := false, apart := false }
def BlockWritesSaid : Prop := blockWritesRow.holds Tryz.pinned (OpenSpec.ofChange blockWritesSpec)

/-- ITS FALSE NEIGHBOUR: 'it returns false'. Refute it at one input. -/
def blockWritesWrong : ChangeSpec := { name := "blockWrites", fn := fun _ => fun
  | [d1, d2, d3] => { results := [.lit (.bool false)], args := [d1, d2, d3] }
  | _ => none }
def BlockWritesWrongFalsely : Prop := blockWritesRow.holds Tryz.pinned (OpenSpec.ofChange blockWritesWrong)

/-- 'swinglelaw11.DeflateStored': WHATEVER THE INPUT: true; the input reads as it did. -/
def deflateStoredSpec : ChangeSpec := { name := "deflateStored", fn := fun _ => fun
  | [d1, d2, d3] => { results := [.lit (.bool true)], args := [d1, d2, d3] }
  | _ => none }
def deflateStoredRow : OpenClaim := { program := "ytdehkaknbmbieaagreat", sum := "3a6753df3406abb3b60f3c7ee32ddcfa0601c7912385019f029780014822e5b2", func := "swingle/swinglelaw11.DeflateStored", spec := "deflateStored", unfollowed := true, recurses := true, plainKeys := false, apart := false }
def DeflateStoredSaid : Prop := deflateStoredRow.holds Tryz.pinned (OpenSpec.ofChange deflateStoredSpec)

/-- ITS FALSE NEIGHBOUR: 'it returns false'. Refute it at one input. -/
def deflateStoredWrong : ChangeSpec := { name := "deflateStored", fn := fun _ => fun
  | [d1, d2, d3] => { results := [.lit (.bool false)], args := [d1, d2, d3] }
  | _ => none }
def DeflateStoredWrongFalsely : Prop := deflateStoredRow.holds Tryz.pinned (OpenSpec.ofChange deflateStoredWrong)

/-- 'swinglelaw11.DeflateBack': WHATEVER THE INPUT: true; the input reads as it did. -/
def deflateBackSpec : ChangeSpec := { name := "deflateBack", fn := fun _ => fun
  | [d1, d2] => { results := [.lit (.bool true)], args := [d1, d2] }
  | _ => none }
def deflateBackRow : OpenClaim := { program := "ytdehkaknbmbieaagreat", sum := "3a6753df3406abb3b60f3c7ee32ddcfa0601c7912385019f029780014822e5b2", func := "swingle/swinglelaw11.DeflateBack", spec := "deflateBack", unfollowed := true, recurses := true, plainKeys := false, apart := false }
def DeflateBackSaid : Prop := deflateBackRow.holds Tryz.pinned (OpenSpec.ofChange deflateBackSpec)

/-- ITS FALSE NEIGHBOUR: 'it returns false'. Refute it at one input. -/
def deflateBackWrong : ChangeSpec := { name := "deflateBack", fn := fun _ => fun
  | [d1, d2] => { results := [.lit (.bool false)], args := [d1, d2] }
  | _ => none }
def DeflateBackWrongFalsely : Prop := deflateBackRow.holds Tryz.pinned (OpenSpec.ofChange deflateBackWrong)

/-- 'swinglelaw11.DeflateLong': WHATEVER THE INPUT: true; the input reads as it did. -/
def deflateLongSpec : ChangeSpec := { name := "deflateLong", fn := fun _ => fun
  | [d1, d2] => { results := [.lit (.bool true)], args := [d1, d2] }
  | _ => none }
def deflateLongRow : OpenClaim := { program := "ytdehkaknbmbieaagreat", sum := "3a6753df3406abb3b60f3c7ee32ddcfa0601c7912385019f029780014822e5b2", func := "swingle/swinglelaw11.DeflateLong", spec := "deflateLong", unfollowed := true, recurses := true, plainKeys := false, apart := false }
def DeflateLongSaid : Prop := deflateLongRow.holds Tryz.pinned (OpenSpec.ofChange deflateLongSpec)

/-- ITS FALSE NEIGHBOUR: 'it returns false'. Refute it at one input. -/
def deflateLongWrong : ChangeSpec := { name := "deflateLong", fn := fun _ => fun
  | [d1, d2] => { results := [.lit (.bool false)], args := [d1, d2] }
  | _ => none }
def DeflateLongWrongFalsely : Prop := deflateLongRow.holds Tryz.pinned (OpenSpec.ofChange deflateLongWrong)

/- THE SECOND FORM. 'bulk': how many values and letters a reading holds, each counted each time it is reached (what is shared counts as often as it is met; a slice's spare places count too). A statement '..UptoSaid' is the law's where the arguments, and the package variables that the reading takes, are together of bulk at most 1048576: NARROWER than '..Said'. Prove '..Said' where nothing that the law and all that it calls make is longer than what came in: it says more and counts as full. Else prove '..UptoSaid'. A law counts once. -/
mutual
def uptoBulk {H : Type} : DataW H → Nat
  | .lit (.string bytes) => bytes.length + 1
  | .lit _ => 1
  | .nil => 1
  | .ptr d => uptoBulk d + 1
  | .slice elems spare => uptoBulkAll elems + uptoBulkAll spare + 1
  | .agg parts => uptoBulkAll parts + 1
  | .iface _ d => uptoBulk d + 1
  | .map entries => uptoBulkEntries entries + 1
  | .held _ => 1
def uptoBulkAll {H : Type} : List (DataW H) → Nat
  | [] => 0
  | d :: r => uptoBulk d + uptoBulkAll r
def uptoBulkEntries {H : Type} : List (Lit × DataW H) → Nat
  | [] => 0
  | x :: r => uptoBulkEntry x + uptoBulkEntries r
def uptoBulkEntry {H : Type} : Lit × DataW H → Nat
  | (.string bytes, d) => bytes.length + uptoBulk d + 1
  | (_, d) => uptoBulk d + 1
 end
def uptoSmall : (H : Type) → List (DataW H) → Bool := fun _ ds => decide (uptoBulkAll ds ≤ 1048576)
def OpenSpec.upto (s : _root_.Go.ChangeSpec) : _root_.Go.OpenSpec := { _root_.Go.OpenSpec.ofChange s with cond := some uptoSmall }

/-- 'swinglelaw10.BlockWrites', WHERE WHAT IT READS IS OF BULK AT MOST 1048576: true; the input reads as it did. -/
def blockWritesUptoRow : OpenClaim := { program := "ytdehkaknbmbieaagreat", sum := "3a6753df3406abb3b60f3c7ee32ddcfa0601c7912385019f029780014822e5b2", func := "swingle/swinglelaw10.BlockWrites", spec := "blockWrites", unfollowed := true, recurses := true, plainKeys := false, apart := false, narrowed := true }
def BlockWritesUptoSaid : Prop := blockWritesUptoRow.holds Tryz.pinned (OpenSpec.upto blockWritesSpec)

/-- 'swinglelaw11.DeflateStored', WHERE WHAT IT READS IS OF BULK AT MOST 1048576: true; the input reads as it did. -/
def deflateStoredUptoRow : OpenClaim := { program := "ytdehkaknbmbieaagreat", sum := "3a6753df3406abb3b60f3c7ee32ddcfa0601c7912385019f029780014822e5b2", func := "swingle/swinglelaw11.DeflateStored", spec := "deflateStored", unfollowed := true, recurses := true, plainKeys := false, apart := false, narrowed := true }
def DeflateStoredUptoSaid : Prop := deflateStoredUptoRow.holds Tryz.pinned (OpenSpec.upto deflateStoredSpec)

/-- 'swinglelaw11.DeflateBack', WHERE WHAT IT READS IS OF BULK AT MOST 1048576: true; the input reads as it did. -/
def deflateBackUptoRow : OpenClaim := { program := "ytdehkaknbmbieaagreat", sum := "3a6753df3406abb3b60f3c7ee32ddcfa0601c7912385019f029780014822e5b2", func := "swingle/swinglelaw11.DeflateBack", spec := "deflateBack", unfollowed := true, recurses := true, plainKeys := false, apart := false, narrowed := true }
def DeflateBackUptoSaid : Prop := deflateBackUptoRow.holds Tryz.pinned (OpenSpec.upto deflateBackSpec)

/-- 'swinglelaw11.DeflateLong', WHERE WHAT IT READS IS OF BULK AT MOST 1048576: true; the input reads as it did. -/
def deflateLongUptoRow : OpenClaim := { program := "ytdehkaknbmbieaagreat", sum := "3a6753df3406abb3b60f3c7ee32ddcfa0601c7912385019f029780014822e5b2", func := "swingle/swinglelaw11.DeflateLong", spec := "deflateLong", unfollowed := true, recurses := true, plainKeys := false, apart := false, narrowed := true }
def DeflateLongUptoSaid : Prop := deflateLongUptoRow.holds Tryz.pinned (OpenSpec.upto deflateLongSpec)

end Rows
end Go.Proofs.YtdehkaknbmbieaaGreat
