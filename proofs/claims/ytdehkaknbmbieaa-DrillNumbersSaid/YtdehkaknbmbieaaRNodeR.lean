/- Package swingleref14: Right: its walk. -/
import Derived.Test.YtdehkaknbmbieaaDosE
namespace Go.Proofs.Ytdehkaknbmbieaa
set_option linter.unusedVariables false
set_option linter.unusedSimpArgs false
set_option linter.unusedSectionVars false
open Go.RowKit
set_option linter.unusedVariables false

def nodeV (k m : Int) (t : Nat) (D : ByteArray) : Value := .agg #[.int .i64 k, .int .i64 m, .int .u32 (t : Nat), .string D]
def nodeErr (k m : Int) (t : Nat) (D : ByteArray) : Nat :=
  if k < 0 ∨ 2 < k then 8 else if k = 0 ∧ (m ≠ 0 ∨ t ≠ 0 ∨ D.toList ≠ []) then 1 else if k = 2 ∧ (D.toList ≠ [] ∨ t ≠ 0) then 1 else if m < 0 ∨ 511 < m then 12 else if k = 1 ∧ timeB t = false then 13 else if 65000 < D.size then 4 else 0
set_option maxRecDepth 100000 in
set_option maxHeartbeats 3200000 in
theorem rnodeRight_any (k m : Int) (t : Nat) (D : ByteArray) (w : World) (ht : t < 4294967296) (hD : D.size ≤ 9223372036854775807) : Calls Try.prog 45 #[nodeV k m t D] w fun e w' => e = .returned (.int .i64 (nodeErr k m t D : Nat)) ∧ Upd [] w w' := by
  have HT := Lib.hid (fun w' => refTime_any t w' ht)
  unfold nodeV
  go_enter Try.func45, Try.ntmps45
  go_wp2_with (go_at_call 72; refine (HT.out _).mono ?_; rintro e w2 ⟨rfl, hU2⟩; have c3 := ((Blk.new w _ _).upd hU2 (by simp)).cell 3 rfl)
  all_goals go_returns
  all_goals (refine ⟨congrArg (fun z => Ending.returned (.int .i64 z)) ?_, by first | exact (Upd.refl _ _).alloc _ | exact ((Upd.refl _ _).alloc _).then (by assumption)⟩)
  all_goals (clear HT; unfold nodeErr; (repeat' split) <;> first | rfl | (exfalso; omega) | (exfalso; simp_all; done) | (exfalso; simp_all; omega))
end Go.Proofs.Ytdehkaknbmbieaa
