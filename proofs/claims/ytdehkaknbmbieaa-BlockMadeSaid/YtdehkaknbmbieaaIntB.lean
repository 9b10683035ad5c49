/- Integers in slices: what can be read; cells of numbers. -/
import Derived.Test.YtdehkaknbmbieaaGA
import Derived.Test.YtdehkaknbmbieaaHuff
namespace Go.Proofs.Ytdehkaknbmbieaa
set_option linter.unusedVariables false
set_option linter.unusedSimpArgs false
set_option linter.unusedSectionVars false
open Go.RowKit

/-- Integers that can be read where a slice leads. -/
structure IntsIn (w : World) (a : Option Addr) (len : Nat) (l : List Int) : Prop where
  len : l.length = len
  cell : ∀ i (h : i < l.length), ∃ b off, a = some ⟨b, off, none⟩ ∧ w.cell? ⟨b, off + i, none⟩ = some (.int .i64 l[i]) ∧ -9223372036854775808 ≤ l[i] ∧ l[i] ≤ 9223372036854775807
theorem IntsIn.upd {w w' : World} {a : Option Addr} {len : Nat} {l : List Int} {fp : List Nat} (h : IntsIn w a len l) (hU : Upd fp w w') (hf : ∀ b off, a = some ⟨b, off, none⟩ → b ∉ fp) : IntsIn w' a len l :=
  ⟨h.len, fun i hi => by
    obtain ⟨b, off, e, c, r⟩ := h.cell i hi
    have hb : b < w.heap.size := World.block_lt_of_cell? w _ c
    exact ⟨b, off, e, (hU.at hb (hf b off e) _).trans c, r⟩⟩
theorem IntsIn.pure {w w' : World} {a : Option Addr} {len : Nat} {l : List Int} (h : IntsIn w a len l) (hU : Upd [] w w') : IntsIn w' a len l := h.upd hU (by simp)

def i64s (l : List Nat) : List Value := l.map fun x : Nat => .int .i64 (x : Int)
theorem length_i64s (l : List Nat) : (i64s l).length = l.length := by simp [i64s]
theorem i64s_set (l : List Nat) (i x : Nat) : i64s (l.set i x) = (i64s l).set i (.int .i64 (x : Int)) := by simp [i64s, List.map_set]
theorem i64s_get (l : List Nat) (i x : Nat) (h : l[i]? = some x) : (i64s l)[i]? = some (.int .i64 (x : Int)) := by simp [i64s, h]
theorem i64s_one (l : List Nat) : ∀ v ∈ i64s l, v.oneCell' = true := by
  intro v hv
  simp only [i64s, List.mem_map] at hv
  obtain ⟨x, _, rfl⟩ := hv
  rfl

theorem IntsIn.of_blk {w : World} {b : Nat} {l : List Int} {t : TypeId} (h : Blk w b (l.map (Value.int .i64)) t) (hb : ∀ x ∈ l, -9223372036854775808 ≤ x ∧ x ≤ 9223372036854775807) : IntsIn w (some ⟨b, 0, none⟩) l.length l :=
  ⟨rfl, fun i hi => ⟨b, 0, rfl, by rw [Nat.zero_add]; exact h.cell i (by simp [hi]), hb _ (List.getElem_mem hi)⟩⟩

theorem infoInt : (Try.prog.info? 3).map (fun i => (i.zero, i.size, i.bytes)) = some (some (.int .i64 0), 1, 8) := by kernel_rfl
end Go.Proofs.Ytdehkaknbmbieaa
