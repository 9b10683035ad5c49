/- The law swinglelaw35.ScriptNodes: its walk. -/
import Derived.Deep.CutBlock
import Derived.Test.YtigjingielnaoaaGreatDoorScLv
import Derived.Test.YtigjingielnaoaaGreatDoorScR
namespace Go.Proofs.YtigjingielnaoaaGreatDoor
set_option linter.unusedVariables false
set_option linter.unusedSimpArgs false
set_option linter.unusedSectionVars false
open Go.RowKit
set_option linter.unusedVariables false
set_option linter.unusedSimpArgs false

set_option maxRecDepth 100000 in
set_option maxHeartbeats 3200000 in
theorem lives35_any (w : World) : Calls Tryz.prog 6 #[] w fun e w' => e = .returned (.bool true) ∧ Upd [] w w' := by
  have HL := Lib.hid line0
  have hs : strOf (joinC 9 [[115, 121, 110, 99], [110, 101, 119, 101, 114]]) = ⟨#[115, 121, 110, 99, 9, 110, 101, 119, 101, 114]⟩ := rfl
  rw [hs] at HL
  unfold ev0 at HL
  clear hs
  go_enter Tryz.func6, Tryz.ntmps6
  go_wp2_with fail
  refine (HL.out _).mono ?_
  rintro e w1 ⟨rfl, hu1⟩
  go_wp2
  go_ret
  exact ⟨rfl, hu1⟩
theorem text_len {n : NodN} (h : n.D.size ≤ 400) : n.text.length ≤ 2000 := by
  unfold NodN.text
  split
  · simp
  · split
    · simp
    · split
      · rw [List.length_append, permTo_len]; simp
      · rw [joinC_tot]
        have h1 := hexT_len (bytesOf n.D)
        rw [length_bytesOf] at h1
        have h2 := dosTextP_len n.t
        have h4 := permTo_len n.m.toNat 9
        unfold fileW4
        simp only [totC, List.map_cons, List.map_nil, List.sum_cons, List.sum_nil, List.length_cons, List.length_nil]
        omega
end Go.Proofs.YtigjingielnaoaaGreatDoor
