/- Package node: mode: its walk. -/
import Derived.Test.YtibmhadnfggmlaaDoorDosE
namespace Go.Proofs.YtibmhadnfggmlaaDoor
set_option linter.unusedVariables false
set_option linter.unusedSimpArgs false
set_option linter.unusedSectionVars false
open Go.RowKit

theorem mode_any (m : Int) (w : World) : Calls Tryd.prog 66 #[.int .i64 m] w fun e w' => e = .returned (.bool (decide (0 ≤ m) && decide (m ≤ 511))) ∧ w = w' := by
  by_cases h : 0 ≤ m
  · have t1 : decide (0 ≤ m) = true := decide_eq_true h
    go_enter Tryd.func66, Tryd.ntmps66
    go_wp2
    go_returns
    exact ⟨by rw [t1]; rfl, rfl⟩
  · have t1 : decide (0 ≤ m) = false := decide_eq_false h
    go_enter Tryd.func66, Tryd.ntmps66
    go_wp2
    go_returns
    exact ⟨rfl, rfl⟩
end Go.Proofs.YtibmhadnfggmlaaDoor
