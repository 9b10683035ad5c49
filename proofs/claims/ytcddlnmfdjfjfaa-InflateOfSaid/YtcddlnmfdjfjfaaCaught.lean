/- Package inflate: caught, as a deferred call: of a frame that panics, of one that returns. -/
import Derived.Test.YtcddlnmfdjfjfaaBlock
import Derived.Recover
namespace Go.Proofs.Ytcddlnmfdjfjfaa
open Go.RowKit
set_option linter.unusedVariables false

theorem assert_errno (v : Value) (xT : TypeId) (w : World) : (Instr.typeAssert (.iface 67 v) xT 67 true).run Try.prog w = .ok (.tuple #[v, .bool true]) w := by
  simp [Instr.typeAssert, run_underlying Try.underlying67, go_sem, Result.andThen]
set_option maxRecDepth 100000 in
set_option maxHeartbeats 1600000 in
theorem caught_panicking (p : Addr) (x : Value) (c : Int) (older : List PanicEntry) (w : World) (hx : w.cell? p = some x) (hz : w.frozen? p = false) :
    CallsD Try.prog 51 #[.pointer (some p)] (.panicking ({ v := .iface 67 (.int .i64 c), recovered := false } :: older)) w fun e u' w' =>
      e = .returned (.tuple #[]) ∧ u' = .panicking ({ v := .iface 67 (.int .i64 c), recovered := true } :: older) ∧ w' = w.setCell p (.int .i64 c) := by
  have hta := assert_errno (.int .i64 c) 20
  refine callsD_of_wpS Try.func51 rfl fun c₀ cs hu => ?_
  apply wpS_seq
  apply wpS_region
  simp [wpOpsS, go_sem, recoverD, hu, Try.ntmps51, Exit.thenS]
  refine wpS_of_wp ?_
  go_wp2
  simp [bodyPostS, results, Try.results51]

set_option maxRecDepth 100000 in
set_option maxHeartbeats 1600000 in
theorem caught_idle (p : Addr) (w : World) :
    CallsD Try.prog 51 #[.pointer (some p)] .returning w fun e u' w' => e = .returned (.tuple #[]) ∧ u' = .returning ∧ w' = w := by
  refine callsD_of_wpS Try.func51 rfl fun c₀ cs hu => ?_
  apply wpS_seq
  apply wpS_region
  simp [wpOpsS, go_sem, recoverD, hu, Try.ntmps51, Exit.thenS]
  refine wpS_of_wp ?_
  go_wp2
  cases c₀
  simp_all [bodyPostS, results, Try.results51]
end Go.Proofs.Ytcddlnmfdjfjfaa
