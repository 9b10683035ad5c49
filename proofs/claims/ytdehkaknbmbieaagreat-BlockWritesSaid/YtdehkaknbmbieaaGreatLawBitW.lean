/- The walk of the law BitioWrites. -/
import Derived.Deep.CutBlock
import Derived.Test.YtdehkaknbmbieaaGreatQAP
namespace Go.Proofs.YtdehkaknbmbieaaGreat
set_option linter.unusedVariables false
set_option linter.unusedSimpArgs false
set_option linter.unusedSectionVars false
open Go.RowKit

/-- The steps that came in, cell by cell. -/
def StepsIn (w : World) (a : Option Addr) (len : Nat) (st : Nat → Nat × Nat × Int × ByteArray) : Prop :=
  ∀ i, i < len → ∃ b off, a = some ⟨b, off, none⟩ ∧
    w.cell? ⟨b, off + i * 4, none⟩ = some (.int .u64 ((st i).1 : Nat)) ∧ w.cell? ⟨b, off + i * 4 + 1, none⟩ = some (.int .u32 ((st i).2.1 : Nat)) ∧
    w.cell? ⟨b, off + i * 4 + 2, none⟩ = some (.int .i64 (st i).2.2.1) ∧ w.cell? ⟨b, off + i * 4 + 3, none⟩ = some (.string (st i).2.2.2) ∧
    (st i).1 < 18446744073709551616 ∧ (st i).2.1 < 4294967296 ∧ -9223372036854775808 ≤ (st i).2.2.1 ∧ (st i).2.2.1 ≤ 9223372036854775807 ∧ (st i).2.2.2.size ≤ 9223372036854775807

theorem StepsIn.upd {w wr : World} {a : Option Addr} {len : Nat} {st : Nat → Nat × Nat × Int × ByteArray} (h : StepsIn w a len st) (hU : Upd [] w wr) : StepsIn wr a len st := fun i hi => by
  obtain ⟨b, off, rfl, c0, c1, c2, c3, r⟩ := h i hi
  have hb : b < w.heap.size := World.block_lt_of_cell? w _ c0
  exact ⟨b, off, rfl, (hU.at hb (by simp) _).trans c0, (hU.at hb (by simp) _).trans c1, (hU.at hb (by simp) _).trans c2, (hU.at hb (by simp) _).trans c3, r⟩

theorem wr_new (w : World) : WrAt (w.alloc (.cells #[.slice none 0 0, .int .u64 0, .int .i64 0] 31)) w.heap.size (.slice none 0 0) [] 0 :=
  ⟨Blk.new w [.slice none 0 0, .int .u64 0, .int .i64 0] _, Row.nil _ _ _, Nat.le_refl _, by simp [Value.ownBlock]⟩
section
variable {w0 wr w' : World} {bw bx : Nat} {vw vx v' : Value} {Lw Lx L' : List Bool}
end
end Go.Proofs.YtdehkaknbmbieaaGreat
