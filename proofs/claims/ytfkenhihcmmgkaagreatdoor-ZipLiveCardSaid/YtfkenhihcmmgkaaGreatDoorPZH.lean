/- ZipLive's row: it does not go by what its variables hold (a fact that wants the kernel's memory by itself). -/
import Derived.Test.YtfkenhihcmmgkaaGreatDoorCards
import Derived.SevenTiedAt
set_option linter.unusedVariables false
set_option linter.unusedSimpArgs false
set_option linter.unusedSectionVars false
namespace Go.Proofs.YtfkenhihcmmgkaaGreatDoor
theorem zkR:false=Rows.zipLiveRow.goesBy Tryz.pinned.checked.prog:=by kernel_rfl
end Go.Proofs.YtfkenhihcmmgkaaGreatDoor
