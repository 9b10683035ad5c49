/- Package strings: IndexByte, Index, Count, Split at a sign: walks. -/
import Derived.Test.YtdehkaknbmbieaaSplP
import Derived.Test.YtdehkaknbmbieaaGC
import Derived.Test.YtdehkaknbmbieaaGA
import Derived.Laws.Strings3
import Derived.Deep.OwnRows
import Derived.Deep.LoopGhost
namespace Go.Proofs.Ytdehkaknbmbieaa
set_option linter.unusedVariables false
set_option linter.unusedSimpArgs false
set_option linter.unusedSectionVars false
open Go.RowKit
set_option linter.unusedVariables false

/-- A slice that reads as texts. -/
def TextsAt (w : World) (v : Value) (ps : List (List Nat)) : Prop := ∃ a cap, v = .slice a ps.length cap ∧ ps.length ≤ cap ∧ ∀ i, (hi : i < ps.length) → ∃ b off, a = some ⟨b, off, none⟩ ∧ w.cell? ⟨b, off + i, none⟩ = some (.string (strOf ps[i]))
theorem textCell_lt {w : World} {b o : Nat} {u : Value} (h : w.cell? ⟨b, o, none⟩ = some u) : b < w.heap.size := by
  rcases Nat.lt_or_ge b w.heap.size with h1 | h1
  · exact h1
  · rw [show w.cell? ⟨b, o, none⟩ = none by simp [World.cell?, Array.getElem?_eq_none h1]] at h; cases h
theorem TextsAt.below {w w' : World} {v : Value} {l : List (List Nat)} {B : Nat} (h : TextsAt w v l) (hb : Below B w w') (hB : w.heap.size ≤ B) : TextsAt w' v l := by
  obtain ⟨a, cap, e, hc, h⟩ := h
  refine ⟨a, cap, e, hc, fun i hi => ?_⟩
  obtain ⟨b, off, e2, h2⟩ := h i hi
  exact ⟨b, off, e2, (hb.cell (p := ⟨b, _, none⟩) (Nat.lt_of_lt_of_le (textCell_lt h2) hB)).trans h2⟩
theorem TextsAt.upd {w w' : World} {v : Value} {l : List (List Nat)} (h : TextsAt w v l) (hu : Upd [] w w') : TextsAt w' v l := h.below hu.below (Nat.le_refl _)
def strsV (ps : List (List Nat)) : List Value := ps.map fun p => .string (strOf p)
theorem Row.textsAt {w : World} {v : Value} {ps : List (List Nat)} (h : Row w 9 1 v ps.length (strsV ps)) : TextsAt w v ps := by
  obtain ⟨a, cap, rfl⟩ := h.form
  rcases Nat.eq_zero_or_pos ps.length with h0 | h0
  · refine ⟨a, cap, rfl, by omega, fun i hi => by omega⟩
  · obtain ⟨g, cap', hv, _, hc⟩ := h.form' h0
    simp only [Value.slice.injEq] at hv
    obtain ⟨rfl, _, rfl⟩ := hv
    exact ⟨_, _, rfl, hc, fun i hi => ⟨g, 0, rfl, by rw [Nat.zero_add]; exact h.cell i (by unfold strsV; rw [List.getElem?_map, List.getElem?_eq_getElem hi]; rfl)⟩⟩
theorem infoStrE : (Try.prog.info? 9).map (fun i => (i.zero, i.size, i.bytes)) = some (some (.string ByteArray.empty), 1, 16) := by kernel_rfl
theorem split_set (ps rest : List (List Nat)) (x : List Nat) (n : Nat) (h : ps.length < n) : (strsV ps ++ List.replicate (n - ps.length) (Value.string .empty)).set ps.length (Value.string (strOf x)) = strsV (ps ++ [x]) ++ List.replicate (n - (ps.length + 1)) (Value.string .empty) := by
  rw [show n - ps.length = (n - (ps.length + 1)) + 1 by omega, List.replicate_succ, List.set_append_right _ _ (by simp [strsV])]
  simp [strsV]
end Go.Proofs.Ytdehkaknbmbieaa
