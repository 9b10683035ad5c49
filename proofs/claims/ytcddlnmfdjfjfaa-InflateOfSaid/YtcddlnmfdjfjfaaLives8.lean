/- swinglelaw08.lives. -/
import Derived.Test.YtcddlnmfdjfjfaaEnds3
namespace Go.Proofs.Ytcddlnmfdjfjfaa
open Go.RowKit
set_option linter.unusedVariables false

theorem lives8_fact : ofP ⟨#[3, 0]⟩ 10 = .ok ([], 10) := by kernel_rfl
theorem of_ok {s : ByteArray} {most : Int} {w : World} {out : List Nat} {a : Nat} (hs : s.size ≤ 1099511627776) (h : ofP s most = .ok (out, a)) :
    Calls Try.prog 38 #[.string s, .int .i64 most] w fun e w' => e = .returned (.tuple #[.string (strOf out), .int .i64 ((a + 7) / 8 : Nat), .int .i64 0]) ∧ Upd [] w w' := by
  have := of_any s most w hs
  rwa [h] at this
theorem of_err {s : ByteArray} {most : Int} {w : World} {c : Nat} (hs : s.size ≤ 1099511627776) (h : ofP s most = .error c) :
    Calls Try.prog 38 #[.string s, .int .i64 most] w fun e w' => e = .returned (.tuple #[.string ⟨#[]⟩, .int .i64 0, .int .i64 (c : Nat)]) ∧ Upd [] w w' := by
  have := of_any s most w hs
  rwa [h] at this

set_option maxRecDepth 100000 in
set_option maxHeartbeats 1600000 in
theorem lives8_any (w : World) : Calls Try.prog 40 #[] w fun e w' => e = .returned (.bool true) ∧ Upd [] w w' := by
  have HO := Lib.hid (of_ok (w := w) (s := ⟨#[3, 0]⟩) (by decide) lives8_fact)
  have hs0 : strOf [] = ⟨#[]⟩ := rfl
  rw [hs0] at HO
  go_enter Try.func40, Try.ntmps40
  go_wp2_with fail
  refine HO.out.mono ?_
  rintro e w1 ⟨rfl, hU1⟩
  go_wp2_with fail
  refine (order_any w1).mono ?_
  rintro e w2 ⟨rfl, rfl⟩
  go_wp2
  go_returns
  exact ⟨rfl, hU1.alloc _⟩
end Go.Proofs.Ytcddlnmfdjfjfaa
