/- What slices.SortFunc leaves, in this seat's words. -/
import Derived.Test.YtdehkaknbmbieaaGA
import Derived.Shelf.SlSortCmp.NoneTotal
import Derived.Test.YtdehkaknbmbieaaProg
namespace Go.Proofs.Ytdehkaknbmbieaa
set_option linter.unusedVariables false
set_option linter.unusedSimpArgs false
set_option linter.unusedSectionVars false
open Go.RowKit
set_option linter.unusedVariables false

theorem sortW_upd {α : Type} [Inhabited α] (enc : α → Value) (w : World) (blk off m : Nat) (d : Array α) (os : Array Obj) : Upd [blk] w (sortWorld enc w blk off m d os) := by
  unfold sortWorld
  refine ⟨rfl, rfl, rfl, by simp, fun k hk hn => ?_⟩
  have hb : blk ≠ k := fun e => hn (by simp [e])
  rw [Sort.heap_grow_old _ _ (by simpa using hk)]
  simp [Sort.putRow, Sort.mapBlock, Array.getElem?_modify, hb]
theorem sortW_row {α : Type} [Inhabited α] (enc : α → Value) (w : World) (blk m k cap : Nat) (e : TypeId) (d : List α) (xs : List Value) (os : Array Obj) (hd : d.length = k) (hR : Row w e 1 (.slice (some ⟨blk, 0, none⟩) k cap) k xs) :
    Row (sortWorld enc w blk 0 m d.toArray os) e 1 (.slice (some ⟨blk, 0, none⟩) k cap) k (d.map enc) := by
  obtain ⟨h1, h2⟩ := hR
  rcases h2 with ⟨e1, _⟩ | ⟨g, c, cur, e1, hb, hh, hc, hm, hs, ht⟩
  · cases e1
  · injection e1 with e1 e2 e3
    injection e1 with e1
    injection e1 with e1 e4
    subst e1 e3
    have hlt : blk < w.heap.size := (Array.getElem?_eq_some_iff.1 hh).1
    refine ⟨by simp [hd], .inr ⟨blk, cap, Sort.putCells enc 0 d.toArray cur, rfl, Nat.zero_le _, ?_, hc, hm, by simp [Sort.putCells, hs], ?_⟩⟩
    · unfold sortWorld
      rw [Sort.heap_grow_old _ _ (by simpa using hlt)]
      simp [Sort.putRow, Sort.mapBlock, Array.getElem?_modify, Sort.ahead, hh, Sort.onCells]
    · apply List.ext_getElem?
      intro i
      rw [List.getElem?_take]
      by_cases hi : i < k
      · rw [if_pos (by omega)]
        have hic : i < cur.size := by omega
        simp [Sort.putCells, hi, hd, hic, List.getElem?_eq_getElem (show i < d.length by omega)]
      · rw [if_neg (by omega), List.getElem?_eq_none (by simp; omega)]
end Go.Proofs.Ytdehkaknbmbieaa
namespace Go.Proofs
open Go.Shelf
def Ytdehkaknbmbieaa.sortL_ren : Go.Shelf.Ren := ⟨fun | 6 => 48 | 15 => 78 | 14 => 77 | 28 => 110 | 29 => 111 | 20 => 102 | 21 => 103 | 22 => 104 | 23 => 105 | 24 => 106 | 25 => 107 | 26 => 108 | 27 => 109 | 46 => 131 | 47 => 132 | 48 => 133 | 49 => 134 | 50 => 135 | 57 => 148 | n => n, fun | 22 => 22 | 24 => 3 | 25 => 91 | 3 => 3 | 39 => 31 | 0 => 0 | 53 => 78 | 55 => 68 | 4 => 4 | 46 => 162 | 45 => 161 | 50 => 166 | 5 => 5 | 9 => 9 | 66 => 190 | 70 => 193 | 76 => 212 | 77 => 195 | n => n, fun | n => n⟩
theorem Ytdehkaknbmbieaa.sortL : Go.Proofs.SlLaysF.n6 Try.prog Ytdehkaknbmbieaa.sortL_ren := {
  mixed := by kernel_rfl
  f6 := ⟨Try.f48.name, by decide, Try.func48.trans (congrArg some (by kernel_rfl))⟩
  f14 := ⟨Try.f77.name, by decide, Try.func77.trans (congrArg some (by kernel_rfl))⟩
  f15 := Try.func78.trans (congrArg some (by kernel_rfl))
  f20 := ⟨Try.f102.name, by decide, Try.func102.trans (congrArg some (by kernel_rfl))⟩
  f21 := ⟨Try.f103.name, by decide, Try.func103.trans (congrArg some (by kernel_rfl))⟩
  f22 := ⟨Try.f104.name, by decide, Try.func104.trans (congrArg some (by kernel_rfl))⟩
  f23 := ⟨Try.f105.name, by decide, Try.func105.trans (congrArg some (by kernel_rfl))⟩
  f24 := ⟨Try.f106.name, by decide, Try.func106.trans (congrArg some (by kernel_rfl))⟩
  f25 := ⟨Try.f107.name, by decide, Try.func107.trans (congrArg some (by kernel_rfl))⟩
  f26 := ⟨Try.f108.name, by decide, Try.func108.trans (congrArg some (by kernel_rfl))⟩
  f27 := ⟨Try.f109.name, by decide, Try.func109.trans (congrArg some (by kernel_rfl))⟩
  f28 := Try.func110.trans (congrArg some (by kernel_rfl))
  f29 := Try.func111.trans (congrArg some (by kernel_rfl))
  f46 := ⟨Try.f131.name, by decide, Try.func131.trans (congrArg some (by kernel_rfl))⟩
  f47 := Try.func132.trans (congrArg some (by kernel_rfl))
  f48 := Try.func133.trans (congrArg some (by kernel_rfl))
  f49 := ⟨Try.f134.name, by decide, Try.func134.trans (congrArg some (by kernel_rfl))⟩
  f50 := ⟨Try.f135.name, by decide, Try.func135.trans (congrArg some (by kernel_rfl))⟩
  f57 := ⟨Try.f148.name, by decide, Try.func148.trans (congrArg some (by kernel_rfl))⟩
  t0 := Try.underlying0
  a0 := Try.isAgg0
  z0 := Try.sizeOf0
  v0 := Try.zeroValue0
  t3 := Try.underlying3
  a3 := Try.isAgg3
  z3 := Try.sizeOf3
  v3 := Try.zeroValue3
  t4 := Try.underlying4
  a4 := Try.isAgg4
  z4 := Try.sizeOf4
  v4 := Try.zeroValue4
  t5 := Try.underlying5
  a5 := Try.isAgg5
  z5 := Try.sizeOf5
  v5 := Try.zeroValue5
  t9 := Try.underlying9
  a9 := Try.isAgg9
  z9 := Try.sizeOf9
  v9 := Try.zeroValue9
  t22 := Try.underlying22
  a22 := Try.isAgg22
  z22 := Try.sizeOf22
  v22 := Try.zeroValue22
  a24 := Try.isAgg3
  z24 := Try.sizeOf3
  t25 := Try.underlying91
  a25 := Try.isAgg91
  z25 := Try.sizeOf91
  v25 := Try.zeroValue91
  t39 := Try.underlying31
  a39 := Try.isAgg31
  z39 := Try.sizeOf31
  v39 := Try.zeroValue31
  t45 := Try.underlying161
  a45 := Try.isAgg161
  z45 := Try.sizeOf161
  v45 := Try.zeroValue161
  t46 := Try.underlying162
  a46 := Try.isAgg162
  z46 := Try.sizeOf162
  v46 := Try.zeroValue162
  t50 := Try.underlying166
  a50 := Try.isAgg166
  z50 := Try.sizeOf166
  v50 := Try.zeroValue166
  t53 := Try.underlying78
  a53 := Try.isAgg78
  z53 := Try.sizeOf78
  v53 := Try.zeroValue78
  t55 := Try.underlying68
  a55 := Try.isAgg68
  z55 := Try.sizeOf68
  v55 := Try.zeroValue68
  t66 := Try.underlying190
  a66 := Try.isAgg190
  z66 := Try.sizeOf190
  v66 := Try.zeroValue190
  t70 := Try.underlying193
  a70 := Try.isAgg193
  z70 := Try.sizeOf193
  v70 := Try.zeroValue193
  t76 := Try.underlying212
  a76 := Try.isAgg212
  z76 := Try.sizeOf212
  v76 := Try.zeroValue212
  t77 := Try.underlying195
  a77 := Try.isAgg195
  z77 := Try.sizeOf195
  v77 := Try.zeroValue195 }
end Go.Proofs
namespace Go.Proofs.Ytdehkaknbmbieaa
set_option linter.unusedVariables false
set_option linter.unusedSimpArgs false
set_option linter.unusedSectionVars false
open Go.RowKit

/-- A row of the call's own: it lies behind w0. -/
def OwnX (w0 w : World) (e : TypeId) (v : Value) (xs : List Value) : Prop := Row w e 1 v xs.length xs ∧ ∀ k, v.ownBlock = some k → w0.heap.size ≤ k
theorem OwnX.nil (w0 w : World) (e : TypeId) : OwnX w0 w e (.slice none 0 0) [] := ⟨Row.nil _ _ _, fun k h => by cases h⟩
theorem OwnX.upd {w0 w w' : World} {e : TypeId} {v : Value} {xs : List Value} (h : OwnX w0 w e v xs) (hu : Upd [] w w') : OwnX w0 w' e v xs := ⟨h.1.upd hu (by simp), h.2⟩
theorem OwnX.app {w0 w wm w' : World} {e : TypeId} {v v' : Value} {xs ys : List Value} (h : OwnX w0 w e v xs) (hu : Upd [] w0 w) (hm : Upd [] w wm) (hR : Row w' e 1 v' (xs.length + ys.length) (xs ++ ys)) (hU : Upd v.ownBlock.toList wm w') (hT : Later wm v v') :
    OwnX w0 w' e v' (xs ++ ys) ∧ Upd [] w0 w' := by
  refine ⟨⟨by rw [List.length_append]; exact hR, fun k hk => ?_⟩, (hu.then hm).trans hU (fun k hk => .inr (h.2 k (by simpa using hk)))⟩
  rcases hT with h1 | ⟨g, h1, h2⟩
  · exact h.2 k (by rw [← h1]; exact hk)
  · rw [h1] at hk; simp at hk h2; have := (hu.then hm).size; omega
theorem OwnX.form {w0 w : World} {e : TypeId} {v : Value} {xs : List Value} (h : OwnX w0 w e v xs) : ∃ a c, v = .slice a xs.length c := h.1.form
theorem OwnX.base {w0 w1 w : World} {e : TypeId} {v : Value} {xs : List Value} (h : OwnX w1 w e v xs) (hs : w0.heap.size ≤ w1.heap.size) : OwnX w0 w e v xs := ⟨h.1, fun k hk => Nat.le_trans hs (h.2 k hk)⟩
end Go.Proofs.Ytdehkaknbmbieaa
