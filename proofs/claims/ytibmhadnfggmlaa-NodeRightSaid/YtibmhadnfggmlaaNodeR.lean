/- Packages node and swingleref14: Right: walks. -/
import Derived.Test.YtibmhadnfggmlaaDosE
import Derived.Test.YtibmhadnfggmlaaSumO
namespace Go.Proofs.Ytibmhadnfggmlaa
open Go.RowKit
set_option linter.unusedVariables false

def nodeV (k m : Int) (t : Nat) (D : ByteArray) : Value := .agg #[.int .i64 k, .int .i64 m, .int .u32 (t : Nat), .string D]
def nodeErr (k m : Int) (t : Nat) (D : ByteArray) : Nat :=
  if k < 0 ∨ 2 < k then 8 else if k = 0 ∧ (m ≠ 0 ∨ t ≠ 0 ∨ D.toList ≠ []) then 1 else if k = 2 ∧ (D.toList ≠ [] ∨ t ≠ 0) then 1 else if m < 0 ∨ 511 < m then 12 else if k = 1 ∧ timeB t = false then 13 else if 65000 < D.size then 4 else 0
theorem mode_any (m : Int) (w : World) : Calls Try.prog 33 #[.int .i64 m] w fun e w' => e = .returned (.bool (decide (0 ≤ m) && decide (m ≤ 511))) ∧ w = w' := by
  by_cases h : 0 ≤ m
  · have t1 : decide (0 ≤ m) = true := decide_eq_true h
    go_enter Try.func33, Try.ntmps33
    go_wp2
    go_returns
    exact ⟨by rw [t1]; rfl, rfl⟩
  · have t1 : decide (0 ≤ m) = false := decide_eq_false h
    go_enter Try.func33, Try.ntmps33
    go_wp2
    go_returns
    exact ⟨rfl, rfl⟩
set_option maxRecDepth 100000 in
set_option maxHeartbeats 3200000 in
theorem rnodeRight_any (k m : Int) (t : Nat) (D : ByteArray) (w : World) (ht : t < 4294967296) (hD : D.size ≤ 9223372036854775807) : Calls Try.prog 23 #[nodeV k m t D] w fun e w' => e = .returned (.int .i64 (nodeErr k m t D : Nat)) ∧ Upd [] w w' := by
  have HT := Lib.hid (fun w' => refTime_any t w' ht)
  unfold nodeV
  go_enter Try.func23, Try.ntmps23
  go_wp2_with (go_at_call 35; refine (HT.out _).mono ?_; rintro e w2 ⟨rfl, hU2⟩; have c3 := ((Blk.new w _ _).upd hU2 (by simp)).cell 3 rfl)
  all_goals go_returns
  all_goals (refine ⟨congrArg (fun z => Ending.returned (.int .i64 z)) ?_, by first | exact (Upd.refl _ _).alloc _ | exact ((Upd.refl _ _).alloc _).then (by assumption)⟩)
  all_goals (clear HT; unfold nodeErr; (repeat' split) <;> first | rfl | (exfalso; omega) | (exfalso; simp_all; done) | (exfalso; simp_all; omega))
set_option maxRecDepth 100000 in
set_option maxHeartbeats 3200000 in
theorem nodeRight_any (k m : Int) (t : Nat) (D : ByteArray) (w : World) (ht : t < 4294967296) (hD : D.size ≤ 9223372036854775807) : Calls Try.prog 22 #[nodeV k m t D] w fun e w' => e = .returned (.int .i64 (nodeErr k m t D : Nat)) ∧ Upd [] w w' := by
  have HT := Lib.hid (fun w' => dosRight_any t w' ht)
  have HM := Lib.hid (fun m w' => mode_any m w')
  unfold nodeV
  go_enter Try.func22, Try.ntmps22
  go_wp2_with (first | (go_at_call 34; refine (HT.out _).mono ?_; rintro e w2 ⟨rfl, hU2⟩; have c3 := ((Blk.new w _ _).upd hU2 (by simp)).cell 3 rfl) | (go_at_call 33; refine (HM.out _ _).mono ?_; rintro e w2 ⟨rfl, rfl⟩))
  all_goals go_returns
  all_goals (refine ⟨congrArg (fun z => Ending.returned (.int .i64 z)) ?_, by first | exact (Upd.refl _ _).alloc _ | exact ((Upd.refl _ _).alloc _).then (by assumption)⟩)
  all_goals (clear HT HM; unfold nodeErr; (repeat' split) <;> first | rfl | (exfalso; omega) | (exfalso; simp_all; done) | (exfalso; simp_all; omega))
end Go.Proofs.Ytibmhadnfggmlaa
