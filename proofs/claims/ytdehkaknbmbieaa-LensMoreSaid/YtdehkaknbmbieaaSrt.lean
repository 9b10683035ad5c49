/- What slices.SortFunc leaves, in this seat's words. -/
import Derived.Test.YtdehkaknbmbieaaGA
import Derived.Shelf.SlSortCmp.NoneTotal
namespace Go.Proofs.Ytdehkaknbmbieaa
set_option linter.unusedVariables false
set_option linter.unusedSimpArgs false
set_option linter.unusedSectionVars false
open Go.RowKit
set_option linter.unusedVariables false

theorem sortW_upd {α : Type} [Inhabited α] (enc : α → Value) (w : World) (blk off m : Nat) (d : Array α) (os : Array Obj) : Upd [blk] w (sortWorld enc w blk off m d os) := by
  unfold sortWorld
  refine ⟨rfl, rfl, rfl, by simp, fun k hk hn => ?_⟩
  have hb : blk ≠ k := fun e => hn (by simp [e])
  rw [Sort.heap_grow_old _ _ (by simpa using hk)]
  simp [Sort.putRow, Sort.mapBlock, Array.getElem?_modify, hb]
theorem sortW_row {α : Type} [Inhabited α] (enc : α → Value) (w : World) (blk m k cap : Nat) (e : TypeId) (d : List α) (xs : List Value) (os : Array Obj) (hd : d.length = k) (hR : Row w e 1 (.slice (some ⟨blk, 0, none⟩) k cap) k xs) :
    Row (sortWorld enc w blk 0 m d.toArray os) e 1 (.slice (some ⟨blk, 0, none⟩) k cap) k (d.map enc) := by
  obtain ⟨h1, h2⟩ := hR
  rcases h2 with ⟨e1, _⟩ | ⟨g, c, cur, e1, hb, hh, hc, hm, hs, ht⟩
  · cases e1
  · injection e1 with e1 e2 e3
    injection e1 with e1
    injection e1 with e1 e4
    subst e1 e3
    have hlt : blk < w.heap.size := (Array.getElem?_eq_some_iff.1 hh).1
    refine ⟨by simp [hd], .inr ⟨blk, cap, Sort.putCells enc 0 d.toArray cur, rfl, Nat.zero_le _, ?_, hc, hm, by simp [Sort.putCells, hs], ?_⟩⟩
    · unfold sortWorld
      rw [Sort.heap_grow_old _ _ (by simpa using hlt)]
      simp [Sort.putRow, Sort.mapBlock, Array.getElem?_modify, Sort.ahead, hh, Sort.onCells]
    · apply List.ext_getElem?
      intro i
      rw [List.getElem?_take]
      by_cases hi : i < k
      · rw [if_pos (by omega)]
        have hic : i < cur.size := by omega
        simp [Sort.putCells, hi, hd, hic, List.getElem?_eq_getElem (show i < d.length by omega)]
      · rw [if_neg (by omega), List.getElem?_eq_none (by simp; omega)]
end Go.Proofs.Ytdehkaknbmbieaa
