/- A function's value compared with nil. -/
import Derived.Test.YtibmhadnfggmlaaBase
import Derived.Laws.Pointers
namespace Go.Proofs.Ytibmhadnfggmlaa
open Go.RowKit Go

theorem run_equalIn_func {P : Program} (d : Nat) (t : TypeId) {ps rs : Array TypeId} {va : Bool} (h : P.underlying t = some (.func ps rs va)) (fn : Fn) (fi ca : Array Value) (w : World) : (Op.equalIn (d + 1) t (.func fn fi ca) .nilFunc).run P w = .ok false w := by
  simp [Op.equalIn, run_underlying h]
theorem run_equal_seq (fn : Fn) (fi ca : Array Value) (w : World) : (Op.equal 37 (.func fn fi ca) .nilFunc).run Try.prog w = .ok false w :=
  run_equalIn_func 9999 _ Try.underlying37 fn fi ca w
theorem run_eql_seq (fn : Fn) (fi ca : Array Value) (w : World) : (binOp .eql 37 (.func fn fi ca) .nilFunc).run Try.prog w = .ok (.bool false) w := by
  simp only [binOp]
  simp [run_equal_seq fn fi ca w]
end Go.Proofs.Ytibmhadnfggmlaa
