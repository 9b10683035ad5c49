/- swinglelaw19: lives. -/
import Derived.Test.YtibmhadnfggmlaaDoorLocW
namespace Go.Proofs.YtibmhadnfggmlaaDoor
open Go.RowKit
set_option linter.unusedVariables false

def rec0 : RecD := ⟨{ data := #[97] }, 0, 0, 0, 0, 1, 0, 2162688, 0⟩
theorem rec0_fits : rec0.Fits := ⟨by decide, by decide, by decide⟩
theorem rec0_len : (writeP rec0).length = 31 := by decide +kernel
set_option maxRecDepth 100000 in
theorem lives19_any (w : World) : Calls Tryd.prog 31 #[] w fun e w' => e = .returned (.bool true) ∧ Upd [] w w' := by
  have HW : Hid (∀ w, Calls Tryd.prog 36 #[.agg #[.string { data := #[97] }, .int .i64 0, .int .u32 0, .int .i64 0, .int .i64 0, .int .i64 1, .int .i64 0, .int .u32 2162688, .int .i64 0]] w fun e w' => e = .returned (.string (strOf (writeP rec0))) ∧ Upd [] w w') := Lib.hid (fun w => locWrite_any rec0 w rec0_fits)
  have hsz : (strOf (writeP rec0)).size = 31 := by rw [size_strOf, rec0_len]
  generalize strOf (writeP rec0) = S at *
  go_enter Tryd.func31, Tryd.ntmps31
  go_wp2_with fail
  refine (HW.out _).mono ?_
  rintro e w1 ⟨rfl, hU⟩
  go_wp2_with fail
  go_ret
  exact ⟨rfl, ((Upd.refl [] w).alloc _).then hU⟩
end Go.Proofs.YtibmhadnfggmlaaDoor
