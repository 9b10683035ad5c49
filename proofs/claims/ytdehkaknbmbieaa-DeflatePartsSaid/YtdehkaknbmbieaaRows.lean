/-
  No cell of these rows narrows 'for every input' (looked for: loops, veiled, ifaces, maps, wideKeys, modest, calm, conditions, laid).
  DERIVED. THE GIVEN ROWS OF THIS SEAT. 7 by the template 'for every input the law returns true; each argument reads behind the call as it read before'; 0 by the template 'total and deterministic' (their statements: YtdehkaknbmbieaaTotals.lean).
  GIVEN WITH THE SEED: the statements are not yours to turn. If you find one false, say at which input.
  Laid BY PROGRAM, IN A SANDBOX (cutbox-rows.mjs): the forced cells as the released guide's own fill.sh prints them over the translation eb51cbc057c6192d… (all of the seat's roots in one cut). By AI agents, Wed Nov 11 2026. No macro, syntax, notation, axiom, sorry.
-/
import Derived.Test.YtdehkaknbmbieaaChecked
import GoSem.Claim
import GoSem.ClaimJoined
import GoSem.ClaimMapViews
import Derived.JoinedTies
import Derived.KernelRfl
namespace Go.Proofs.Ytdehkaknbmbieaa
/- THE CELL 'sum', in the pinned program and in every row, IS THE sha256 OF THE DUMP (.gsa) THAT YtdehkaknbmbieaaProg.lean LOADS. Nothing in Lean hashes anything: it is a label: what it is worth is what the hold of that sum in a sandbox is worth. -/
noncomputable def Try.pinned : Pinned := { name := "ytdehkaknbmbieaa", sum := "eb51cbc057c6192d54be359c11c9c6406aafac43dabcbc66248d7c7573cc0122", checked := Try.checked }
namespace Rows
def none {H : Type} : Left H := { results := [], args := [] }

/-- 'swinglelaw05.LensFit': WHATEVER THE INPUT: true; the input reads as it did. -/
def lensFitSpec : ChangeSpec := { name := "lensFit", fn := fun _ => fun
  | [d1, d2] => { results := [.lit (.bool true)], args := [d1, d2] }
  | _ => none }
def lensFitRow : OpenClaim := { program := "ytdehkaknbmbieaa", sum := "eb51cbc057c6192d54be359c11c9c6406aafac43dabcbc66248d7c7573cc0122", func := "swingle/swinglelaw05.LensFit", spec := "lensFit", unfollowed := true, recurses := true, plainKeys := false, apart := false }
def LensFitSaid : Prop := lensFitRow.holds Try.pinned (OpenSpec.ofChange lensFitSpec)

/-- ITS FALSE NEIGHBOUR: 'it returns false'. Refute it at one input. -/
def lensFitWrong : ChangeSpec := { name := "lensFit", fn := fun _ => fun
  | [d1, d2] => { results := [.lit (.bool false)], args := [d1, d2] }
  | _ => none }
def LensFitWrongFalsely : Prop := lensFitRow.holds Try.pinned (OpenSpec.ofChange lensFitWrong)

/-- 'swinglelaw05.LensLeast': WHATEVER THE INPUT: true; the input reads as it did. -/
def lensLeastSpec : ChangeSpec := { name := "lensLeast", fn := fun _ => fun
  | [d1, d2] => { results := [.lit (.bool true)], args := [d1, d2] }
  | _ => none }
def lensLeastRow : OpenClaim := { program := "ytdehkaknbmbieaa", sum := "eb51cbc057c6192d54be359c11c9c6406aafac43dabcbc66248d7c7573cc0122", func := "swingle/swinglelaw05.LensLeast", spec := "lensLeast", unfollowed := true, recurses := true, plainKeys := false, apart := false }
def LensLeastSaid : Prop := lensLeastRow.holds Try.pinned (OpenSpec.ofChange lensLeastSpec)

/-- ITS FALSE NEIGHBOUR: 'it returns false'. Refute it at one input. -/
def lensLeastWrong : ChangeSpec := { name := "lensLeast", fn := fun _ => fun
  | [d1, d2] => { results := [.lit (.bool false)], args := [d1, d2] }
  | _ => none }
def LensLeastWrongFalsely : Prop := lensLeastRow.holds Try.pinned (OpenSpec.ofChange lensLeastWrong)

/-- 'swinglelaw05.LensMore': WHATEVER THE INPUT: true; the input reads as it did. -/
def lensMoreSpec : ChangeSpec := { name := "lensMore", fn := fun _ => fun
  | [d1, d2, d3] => { results := [.lit (.bool true)], args := [d1, d2, d3] }
  | _ => none }
def lensMoreRow : OpenClaim := { program := "ytdehkaknbmbieaa", sum := "eb51cbc057c6192d54be359c11c9c6406aafac43dabcbc66248d7c7573cc0122", func := "swingle/swinglelaw05.LensMore", spec := "lensMore", unfollowed := true, recurses := true, plainKeys := false, apart := false }
def LensMoreSaid : Prop := lensMoreRow.holds Try.pinned (OpenSpec.ofChange lensMoreSpec)

/-- ITS FALSE NEIGHBOUR: 'it returns false'. Refute it at one input. -/
def lensMoreWrong : ChangeSpec := { name := "lensMore", fn := fun _ => fun
  | [d1, d2, d3] => { results := [.lit (.bool false)], args := [d1, d2, d3] }
  | _ => none }
def LensMoreWrongFalsely : Prop := lensMoreRow.holds Try.pinned (OpenSpec.ofChange lensMoreWrong)

/-- 'swinglelaw10.BlockMany': WHATEVER THE INPUT: true; the input reads as it did. -/
def blockManySpec : ChangeSpec := { name := "blockMany", fn := fun _ => fun
  | [d1, d2, d3] => { results := [.lit (.bool true)], args := [d1, d2, d3] }
  | _ => none }
def blockManyRow : OpenClaim := { program := "ytdehkaknbmbieaa", sum := "eb51cbc057c6192d54be359c11c9c6406aafac43dabcbc66248d7c7573cc0122", func := "swingle/swinglelaw10.BlockMany", spec := "blockMany", unfollowed := true, recurses := true, plainKeys := false, apart := false }
def BlockManySaid : Prop := blockManyRow.holds Try.pinned (OpenSpec.ofChange blockManySpec)

/-- ITS FALSE NEIGHBOUR: 'it returns false'. Refute it at one input. -/
def blockManyWrong : ChangeSpec := { name := "blockMany", fn := fun _ => fun
  | [d1, d2, d3] => { results := [.lit (.bool false)], args := [d1, d2, d3] }
  | _ => none }
def BlockManyWrongFalsely : Prop := blockManyRow.holds Try.pinned (OpenSpec.ofChange blockManyWrong)

/-- 'swinglelaw10.BlockMade': WHATEVER THE INPUT: true; the input reads as it did. -/
def blockMadeSpec : ChangeSpec := { name := "blockMade", fn := fun _ => fun
  | [d] => { results := [.lit (.bool true)], args := [d] }
  | _ => none }
def blockMadeRow : OpenClaim := { program := "ytdehkaknbmbieaa", sum := "eb51cbc057c6192d54be359c11c9c6406aafac43dabcbc66248d7c7573cc0122", func := "swingle/swinglelaw10.BlockMade", spec := "blockMade", unfollowed := true, recurses := true, plainKeys := false, apart := false }
def BlockMadeSaid : Prop := blockMadeRow.holds Try.pinned (OpenSpec.ofChange blockMadeSpec)

/-- ITS FALSE NEIGHBOUR: 'it returns false'. Refute it at one input. -/
def blockMadeWrong : ChangeSpec := { name := "blockMade", fn := fun _ => fun
  | [d] => { results := [.lit (.bool false)], args := [d] }
  | _ => none }
def BlockMadeWrongFalsely : Prop := blockMadeRow.holds Try.pinned (OpenSpec.ofChange blockMadeWrong)

/-- 'swinglelaw11.DeflateParts': WHATEVER THE INPUT: true; the input reads as it did. -/
def deflatePartsSpec : ChangeSpec := { name := "deflateParts", fn := fun _ => fun
  | [d1, d2] => { results := [.lit (.bool true)], args := [d1, d2] }
  | _ => none }
def deflatePartsRow : OpenClaim := { program := "ytdehkaknbmbieaa", sum := "eb51cbc057c6192d54be359c11c9c6406aafac43dabcbc66248d7c7573cc0122", func := "swingle/swinglelaw11.DeflateParts", spec := "deflateParts", unfollowed := true, recurses := true, plainKeys := false, apart := false }
def DeflatePartsSaid : Prop := deflatePartsRow.holds Try.pinned (OpenSpec.ofChange deflatePartsSpec)

/-- ITS FALSE NEIGHBOUR: 'it returns false'. Refute it at one input. -/
def deflatePartsWrong : ChangeSpec := { name := "deflateParts", fn := fun _ => fun
  | [d1, d2] => { results := [.lit (.bool false)], args := [d1, d2] }
  | _ => none }
def DeflatePartsWrongFalsely : Prop := deflatePartsRow.holds Try.pinned (OpenSpec.ofChange deflatePartsWrong)

/-- 'swinglelaw40.DrillNumbers': WHATEVER THE INPUT: true; the input reads as it did. -/
def drillNumbersSpec : ChangeSpec := { name := "drillNumbers", fn := fun _ => fun
  | [d1, d2] => { results := [.lit (.bool true)], args := [d1, d2] }
  | _ => none }
def drillNumbersRow : OpenClaim := { program := "ytdehkaknbmbieaa", sum := "eb51cbc057c6192d54be359c11c9c6406aafac43dabcbc66248d7c7573cc0122", func := "swingle/swinglelaw40.DrillNumbers", spec := "drillNumbers", inPlace := ["internal/abi.NoEscape", "internal/bytealg.MakeNoZero"], unfollowed := true, recurses := true, plainKeys := false, apart := false }
def DrillNumbersSaid : Prop := drillNumbersRow.holds Try.pinned (OpenSpec.ofChange drillNumbersSpec)

/-- ITS FALSE NEIGHBOUR: 'it returns false'. Refute it at one input. -/
def drillNumbersWrong : ChangeSpec := { name := "drillNumbers", fn := fun _ => fun
  | [d1, d2] => { results := [.lit (.bool false)], args := [d1, d2] }
  | _ => none }
def DrillNumbersWrongFalsely : Prop := drillNumbersRow.holds Try.pinned (OpenSpec.ofChange drillNumbersWrong)

/- THE SECOND FORM. 'bulk': how many values and letters a reading holds, each counted each time it is reached (what is shared counts as often as it is met; a slice's spare places count too). A statement '..UptoSaid' is the law's where the arguments, and the package variables that the reading takes, are together of bulk at most 1048576: NARROWER than '..Said'. Prove '..Said' where nothing that the law and all that it calls make is longer than what came in: it says more and counts as full. Else prove '..UptoSaid'. A law counts once. -/
mutual
def uptoBulk {H : Type} : DataW H → Nat
  | .lit (.string bytes) => bytes.length + 1
  | .lit _ => 1
  | .nil => 1
  | .ptr d => uptoBulk d + 1
  | .slice elems spare => uptoBulkAll elems + uptoBulkAll spare + 1
  | .agg parts => uptoBulkAll parts + 1
  | .iface _ d => uptoBulk d + 1
  | .map entries => uptoBulkEntries entries + 1
  | .held _ => 1
def uptoBulkAll {H : Type} : List (DataW H) → Nat
  | [] => 0
  | d :: r => uptoBulk d + uptoBulkAll r
def uptoBulkEntries {H : Type} : List (Lit × DataW H) → Nat
  | [] => 0
  | x :: r => uptoBulkEntry x + uptoBulkEntries r
def uptoBulkEntry {H : Type} : Lit × DataW H → Nat
  | (.string bytes, d) => bytes.length + uptoBulk d + 1
  | (_, d) => uptoBulk d + 1
 end
def uptoSmall : (H : Type) → List (DataW H) → Bool := fun _ ds => decide (uptoBulkAll ds ≤ 1048576)
def OpenSpec.upto (s : _root_.Go.ChangeSpec) : _root_.Go.OpenSpec := { _root_.Go.OpenSpec.ofChange s with cond := some uptoSmall }

/-- 'swinglelaw05.LensFit', WHERE WHAT IT READS IS OF BULK AT MOST 1048576: true; the input reads as it did. -/
def lensFitUptoRow : OpenClaim := { program := "ytdehkaknbmbieaa", sum := "eb51cbc057c6192d54be359c11c9c6406aafac43dabcbc66248d7c7573cc0122", func := "swingle/swinglelaw05.LensFit", spec := "lensFit", unfollowed := true, recurses := true, plainKeys := false, apart := false, narrowed := true }
def LensFitUptoSaid : Prop := lensFitUptoRow.holds Try.pinned (OpenSpec.upto lensFitSpec)

/-- 'swinglelaw05.LensLeast', WHERE WHAT IT READS IS OF BULK AT MOST 1048576: true; the input reads as it did. -/
def lensLeastUptoRow : OpenClaim := { program := "ytdehkaknbmbieaa", sum := "eb51cbc057c6192d54be359c11c9c6406aafac43dabcbc66248d7c7573cc0122", func := "swingle/swinglelaw05.LensLeast", spec := "lensLeast", unfollowed := true, recurses := true, plainKeys := false, apart := false, narrowed := true }
def LensLeastUptoSaid : Prop := lensLeastUptoRow.holds Try.pinned (OpenSpec.upto lensLeastSpec)

/-- 'swinglelaw05.LensMore', WHERE WHAT IT READS IS OF BULK AT MOST 1048576: true; the input reads as it did. -/
def lensMoreUptoRow : OpenClaim := { program := "ytdehkaknbmbieaa", sum := "eb51cbc057c6192d54be359c11c9c6406aafac43dabcbc66248d7c7573cc0122", func := "swingle/swinglelaw05.LensMore", spec := "lensMore", unfollowed := true, recurses := true, plainKeys := false, apart := false, narrowed := true }
def LensMoreUptoSaid : Prop := lensMoreUptoRow.holds Try.pinned (OpenSpec.upto lensMoreSpec)

/-- 'swinglelaw10.BlockMany', WHERE WHAT IT READS IS OF BULK AT MOST 1048576: true; the input reads as it did. -/
def blockManyUptoRow : OpenClaim := { program := "ytdehkaknbmbieaa", sum := "eb51cbc057c6192d54be359c11c9c6406aafac43dabcbc66248d7c7573cc0122", func := "swingle/swinglelaw10.BlockMany", spec := "blockMany", unfollowed := true, recurses := true, plainKeys := false, apart := false, narrowed := true }
def BlockManyUptoSaid : Prop := blockManyUptoRow.holds Try.pinned (OpenSpec.upto blockManySpec)

/-- 'swinglelaw10.BlockMade', WHERE WHAT IT READS IS OF BULK AT MOST 1048576: true; the input reads as it did. -/
def blockMadeUptoRow : OpenClaim := { program := "ytdehkaknbmbieaa", sum := "eb51cbc057c6192d54be359c11c9c6406aafac43dabcbc66248d7c7573cc0122", func := "swingle/swinglelaw10.BlockMade", spec := "blockMade", unfollowed := true, recurses := true, plainKeys := false, apart := false, narrowed := true }
def BlockMadeUptoSaid : Prop := blockMadeUptoRow.holds Try.pinned (OpenSpec.upto blockMadeSpec)

/-- 'swinglelaw11.DeflateParts', WHERE WHAT IT READS IS OF BULK AT MOST 1048576: true; the input reads as it did. -/
def deflatePartsUptoRow : OpenClaim := { program := "ytdehkaknbmbieaa", sum := "eb51cbc057c6192d54be359c11c9c6406aafac43dabcbc66248d7c7573cc0122", func := "swingle/swinglelaw11.DeflateParts", spec := "deflateParts", unfollowed := true, recurses := true, plainKeys := false, apart := false, narrowed := true }
def DeflatePartsUptoSaid : Prop := deflatePartsUptoRow.holds Try.pinned (OpenSpec.upto deflatePartsSpec)

/-- 'swinglelaw40.DrillNumbers', WHERE WHAT IT READS IS OF BULK AT MOST 1048576: true; the input reads as it did. -/
def drillNumbersUptoRow : OpenClaim := { program := "ytdehkaknbmbieaa", sum := "eb51cbc057c6192d54be359c11c9c6406aafac43dabcbc66248d7c7573cc0122", func := "swingle/swinglelaw40.DrillNumbers", spec := "drillNumbers", inPlace := ["internal/abi.NoEscape", "internal/bytealg.MakeNoZero"], unfollowed := true, recurses := true, plainKeys := false, apart := false, narrowed := true }
def DrillNumbersUptoSaid : Prop := drillNumbersUptoRow.holds Try.pinned (OpenSpec.upto drillNumbersSpec)

end Rows
end Go.Proofs.Ytdehkaknbmbieaa
