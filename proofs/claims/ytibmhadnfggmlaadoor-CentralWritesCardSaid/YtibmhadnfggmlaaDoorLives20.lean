/- swinglelaw20: lives. -/
import Derived.Test.YtibmhadnfggmlaaDoorCenW
import Derived.Test.YtibmhadnfggmlaaDoorLives19
namespace Go.Proofs.YtibmhadnfggmlaaDoor
open Go.RowKit
set_option linter.unusedVariables false

theorem crec0_len : (cwriteP rec0).length = 47 := by decide +kernel
set_option maxRecDepth 100000 in
theorem lives20_any (w : World) : Calls Tryd.prog 45 #[] w fun e w' => e = .returned (.bool true) ∧ Upd [] w w' := by
  have HW : Hid (∀ w, Calls Tryd.prog 46 #[.agg #[.string { data := #[97] }, .int .i64 0, .int .u32 0, .int .i64 0, .int .i64 0, .int .i64 1, .int .i64 0, .int .u32 2162688, .int .i64 0]] w fun e w' => e = .returned (.string (strOf (cwriteP rec0))) ∧ Upd [] w w') := Lib.hid (fun w => cenWrite_any rec0 w rec0_fits)
  have HZ : Hid (∀ w, Calls Tryd.prog 48 #[.agg #[.string { data := #[97] }, .int .i64 0, .int .u32 0, .int .i64 0, .int .i64 0, .int .i64 1, .int .i64 0, .int .u32 2162688, .int .i64 0]] w fun e w' => e = .returned (.int .i64 47) ∧ Upd [] w w') := Lib.hid (fun w => csize_any rec0 w rec0_fits)
  have hsz : (strOf (cwriteP rec0)).size = 47 := by rw [size_strOf, crec0_len]
  generalize strOf (cwriteP rec0) = S at *
  go_enter Tryd.func45, Tryd.ntmps45
  go_wp2_with fail
  refine (HW.out _).mono ?_
  rintro e w1 ⟨rfl, hU⟩
  have hB := (Blk.new w [.string { data := #[97] }, .int .i64 0, .int .u32 0, .int .i64 0, .int .i64 0, .int .i64 1, .int .i64 0, .int .u32 2162688, .int .i64 0] 51).upd hU (by simp)
  have hU1 := ((Upd.refl [] w).alloc (.cells #[.string { data := #[97] }, .int .i64 0, .int .u32 0, .int .i64 0, .int .i64 0, .int .i64 1, .int .i64 0, .int .u32 2162688, .int .i64 0] 51)).then hU
  have c0 := hB.cell 0 rfl
  have c1 := hB.cell 1 rfl
  have c2 := hB.cell 2 rfl
  have c3 := hB.cell 3 rfl
  have c4 := hB.cell 4 rfl
  have c5 := hB.cell 5 rfl
  have c6 := hB.cell 6 rfl
  have c7 := hB.cell 7 rfl
  have c8 := hB.cell 8 rfl
  have HU1 := Lib.hid hU1
  clear hU hU1 hB
  go_wp2_with fail
  refine (HZ.out _).mono ?_
  rintro e w2 ⟨rfl, hU2⟩
  go_wp2
  go_ret
  exact ⟨rfl, HU1.out.then hU2⟩
end Go.Proofs.YtibmhadnfggmlaaDoor
