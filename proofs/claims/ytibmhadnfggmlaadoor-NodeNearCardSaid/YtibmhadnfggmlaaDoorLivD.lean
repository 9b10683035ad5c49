/- The law package swinglelaw14: lives: its walk. -/
import Derived.Test.YtibmhadnfggmlaaDoorPermD
namespace Go.Proofs.YtibmhadnfggmlaaDoor
set_option linter.unusedVariables false
set_option linter.unusedSimpArgs false
set_option linter.unusedSectionVars false
open Go.RowKit
set_option linter.unusedVariables false

def noPrint : Value := .agg #[.int .i64 0, .int .i64 0, .int .u32 0, .int .i64 0, .int .u32 0]
theorem fine_none (w : World) : Calls Tryd.prog 21 #[noPrint] w fun e w' => e = .returned (.bool true) ∧ Upd [] w w' := by
  unfold noPrint
  go_enter Tryd.func21, Tryd.ntmps21
  go_wp2
  go_returns
  exact ⟨rfl, (Upd.refl _ _).alloc _⟩
set_option maxRecDepth 100000 in
theorem text_none (w : World) : Calls Tryd.prog 23 #[noPrint] w fun e w' => e = .returned (.string ⟨#[110, 111, 110, 101]⟩) ∧ Upd [] w w' := by
  have HF := Lib.hid (fun w' => fine_none w')
  unfold noPrint at HF ⊢
  go_enter Tryd.func23, Tryd.ntmps23
  go_wp2_with fail
  have hB := Blk.new w [.int .i64 0, .int .i64 0, .int .u32 0, .int .i64 0, .int .u32 0] 32
  refine (HF.out _).mono ?_
  rintro e w1 ⟨rfl, hU1⟩
  have c0 := (hB.upd hU1 (by simp)).cell 0 rfl
  go_wp2
  go_returns
  exact ⟨rfl, ((Upd.refl _ _).alloc _).then hU1⟩
theorem perm_420 : strOf (permTo 420 9) = ⟨#[114, 119, 45, 114, 45, 45, 114, 45, 45]⟩ := by decide +kernel
theorem lives14_any (w : World) : Calls Tryd.prog 25 #[] w fun e w' => e = .returned (.bool true) ∧ Upd [] w w' := by
  have HP := perm_any 420 w (by omega)
  rw [perm_420] at HP
  have HP := Lib.hid HP
  have HT := Lib.hid (fun w' => text_none w')
  unfold noPrint at HT
  go_enter Tryd.func25, Tryd.ntmps25
  go_wp2_with fail
  refine HP.out.mono ?_
  rintro e w1 ⟨rfl, hU1⟩
  go_wp2_with fail
  refine (HT.out w1).mono ?_
  rintro e w2 ⟨rfl, hU2⟩
  go_wp2
  go_returns
  exact ⟨rfl, hU1.then hU2⟩
end Go.Proofs.YtibmhadnfggmlaaDoor
