/- ZipLive's row: what it says of the program, each fact by itself (the kernel's memory does not hold them all at once). -/
import Derived.Test.YtfkenhihcmmgkaaGreatDoorCards
import Derived.Test.YtfkenhihcmmgkaaGreatDoorTie
import Derived.JoinedOf
import Derived.Carry
import Derived.ProofKit
import Derived.OpenShut
import Derived.SevenTiedAt
import Derived.Stop.Joined
set_option linter.unusedVariables false
set_option linter.unusedSimpArgs false
set_option linter.unusedSectionVars false
namespace Go.Proofs.YtfkenhihcmmgkaaGreatDoor
open Go.ChangeShapes Go.WideShapes Go.ChangeAt Go.RowKit
theorem zkF:(Rows.zipLiveRow.inPlace==Tryz.pinned.checked.prog.inPlace 3)=true:=by kernel_rfl
theorem zkP:(Rows.zipLiveRow.unfollowed==Tryz.pinned.checked.prog.unfollowed 3)=true:=by kernel_rfl
theorem zkD:(Rows.zipLiveRow.recurses==Tryz.pinned.checked.prog.recurses 3)=true:=by kernel_rfl
theorem zkU:(Rows.zipLiveRow.named==Tryz.pinned.checked.prog.varsNamed 3)=true:=by kernel_rfl
theorem zkL:Tryz.pinned.checked.prog.stopsHeard=true:=by kernel_rfl
theorem zkH:Tryz.pinned.checked.prog.mayEnter=true:=by kernel_rfl
theorem zkT:mapsRowed Tryz.pinned.checked.prog=true:=by kernel_rfl
theorem zko:joinedFacts Tryz.pinned.checked.prog 3 Tryz.f3 Rows.zipLiveSpec Rows.zipLiveRow=true:=by
 unfold joinedFacts;rw [zkF,zkP,zkD,zkU,zkL,zkH,zkT];kernel_rfl
theorem zkJ:true=Tryz.pinned.checked.prog.looks []:=by kernel_rfl
end Go.Proofs.YtfkenhihcmmgkaaGreatDoor
