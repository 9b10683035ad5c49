/- Package lens: the comparison by which the symbols are sorted. -/
import Derived.Sort.Grow
import Derived.Test.YtdehkaknbmbieaaQAE
import Derived.Shelf.SlSortCmp.NoneTotal
import Derived.Test.YtdehkaknbmbieaaQAC
import Derived.Test.YtdehkaknbmbieaaProg
namespace Go.Proofs.Ytdehkaknbmbieaa
set_option linter.unusedVariables false
set_option linter.unusedSimpArgs false
set_option linter.unusedSectionVars false
open Go.RowKit
set_option linter.unusedVariables false
set_option linter.unusedSimpArgs false

theorem keepCell {W w : World} {p : Addr} {v : Value} (h : ∃ os, w = Go.Sort.grow W.drew os) (hc : W.cell? p = some v) : w.cell? p = some v := by
  obtain ⟨os, rfl⟩ := h
  exact (Go.Sort.cell?_grow W.drew os p (World.block_lt_of_cell? W _ hc)).trans hc
theorem keepAlloc {W w : World} {o : Obj} (h : ∃ os, w = Go.Sort.grow W.drew os) : ∃ os, w.alloc o = Go.Sort.grow W.drew os := by
  obtain ⟨os, rfl⟩ := h
  exact ⟨os ++ #[o], by rw [Go.Sort.alloc_eq_grow, Go.Sort.grow_grow]⟩
def cfN (many : List Int) (x y : Nat) : Int := orN (cmpN (nearN (many.getD x 0)) (nearN (many.getD y 0))) (cmpN x y)
set_option maxRecDepth 100000 in
set_option maxHeartbeats 3200000 in
theorem usedCmp_any (many : List Int) (a : Option Addr) (n cap bx x y : Nat) (W : World) (hb : W.cell? ⟨bx, 0, none⟩ = some (.slice a n cap)) (hI : IntsIn W a n many) (hx : x < n) (hy : y < n) (hn : n ≤ 1000000) :
    Calls Try.prog 49 #[.int .i64 (x : Nat), .int .i64 (y : Nat), .pointer (some ⟨bx, 0, none⟩)] W fun e w' => e = .returned (.int .i64 (cfN many x y)) ∧ ∃ q os, w' = Go.Sort.grow (W.drewN q) os := by
  have hx1 : x < many.length := by rw [hI.len]; exact hx
  have hy1 : y < many.length := by rw [hI.len]; exact hy
  obtain ⟨b, off, rfl, hc1, r1, r2⟩ := hI.cell x hx1
  obtain ⟨b', off', hbo, hc2, r3, r4⟩ := hI.cell y hy1
  injection hbo with hbo
  injection hbo with e1 e2
  subst e1 e2
  have HCF : Hid (cfN many x y = orN (cmpN (nearN many[x]) (nearN many[y])) (cmpN x y)) := Lib.hid (by unfold cfN; simp [List.getD_eq_getElem?_getD, hx1, hy1])
  generalize many[x] = v1 at *
  generalize many[y] = v2 at *
  have HN1 := Lib.hid (fun w => near_any v1 w)
  have HN2 := Lib.hid (fun w => near_any v2 w)
  generalize nearN v1 = N1 at *
  generalize nearN v2 = N2 at *
  have HC1 := Lib.hid (fun w => compare_any N1 N2 w)
  have HC2 := Lib.hid (fun w => compare_any x y w)
  have hxz : (x : Int) < (n : Int) := by omega
  have hyz : (y : Int) < (n : Int) := by omega
  clear hI hx1 hy1
  go_enter Try.func49, Try.ntmps49
  go_wp2
  refine wp_region_held_drew (S := fun w' => ∃ os, w' = Go.Sort.grow W.drew os) (by kernel_rfl) ⟨#[], by rw [Go.Sort.grow_empty]⟩ (fun hHeld => ?_)
  change wpAnyH _ _ _ _ _ 17 #[false, false, false, false, false, false, false, false, false, false, false, false, false, false, false, false, false] _ _
  refine heldTake (i := 0) (d := some 6) (v := ?v0_1) rfl rfl (by kernel_rfl) (by kernel_rfl) (by kernel_rfl) (fun _ _ _ h => h) (by rfl) ?hy0_1 (by assumption) ?r0_1
  case hy0_1 => (intro w hSw; have q0 := keepCell hSw hb; go_simp; try with_reducible rfl)
  try simp only [Act.put, List.setIfInBounds_toArray, List.set_cons_zero, List.set_cons_succ]
  change wpAnyH _ _ _ _ _ 16 #[true, false, false, false, false, false, false, false, false, false, false, false, false, false, false, false, false] _ _
  refine heldTake (i := 1) (d := some 7) (v := ?v1_2) rfl rfl (by kernel_rfl) (by kernel_rfl) (by kernel_rfl) (fun _ _ _ h => h) (by rfl) ?hy1_2 (by assumption) ?r1_2
  case hy1_2 => (intro w hSw; (try dsimp only at hSw); go_simp; try with_reducible rfl)
  try simp only [Act.put, List.setIfInBounds_toArray, List.set_cons_zero, List.set_cons_succ]
  change wpAnyH _ _ _ _ _ 15 #[true, true, false, false, false, false, false, false, false, false, false, false, false, false, false, false, false] _ _
  refine heldTake (i := 2) (d := some 8) (v := ?v2_3) rfl rfl (by kernel_rfl) (by kernel_rfl) (by kernel_rfl) (fun _ _ _ h => h) (by rfl) ?hy2_3 (by assumption) ?r2_3
  case hy2_3 => (intro w hSw; (try dsimp only at hSw); go_simp; try with_reducible rfl)
  try simp only [Act.put, List.setIfInBounds_toArray, List.set_cons_zero, List.set_cons_succ]
  change wpAnyH _ _ _ _ _ 14 #[true, true, true, false, false, false, false, false, false, false, false, false, false, false, false, false, false] _ _
  refine heldTake (i := 3) (d := some 9) (v := ?v3_4) rfl rfl (by kernel_rfl) (by kernel_rfl) (by kernel_rfl) (fun _ _ _ h => h) (by rfl) ?hy3_4 (by assumption) ?r3_4
  case hy3_4 => (intro w hSw; have q0 := keepCell hSw hc1; go_simp; try with_reducible rfl)
  try simp only [Act.put, List.setIfInBounds_toArray, List.set_cons_zero, List.set_cons_succ]
  change wpAnyH _ _ _ _ _ 13 #[true, true, true, true, false, false, false, false, false, false, false, false, false, false, false, false, false] _ _
  refine heldTake (i := 5) (d := some 11) (v := ?v5_5) rfl rfl (by kernel_rfl) (by kernel_rfl) (by kernel_rfl) (fun _ _ _ h => h) (by rfl) ?hy5_5 (by assumption) ?r5_5
  case hy5_5 => (intro w hSw; have q0 := keepCell hSw hb; go_simp; try with_reducible rfl)
  try simp only [Act.put, List.setIfInBounds_toArray, List.set_cons_zero, List.set_cons_succ]
  change wpAnyH _ _ _ _ _ 12 #[true, true, true, true, false, true, false, false, false, false, false, false, false, false, false, false, false] _ _
  refine heldTake (i := 6) (d := some 12) (v := ?v6_6) rfl rfl (by kernel_rfl) (by kernel_rfl) (by kernel_rfl) (fun _ _ _ h => h) (by rfl) ?hy6_6 (by assumption) ?r6_6
  case hy6_6 => (intro w hSw; (try dsimp only at hSw); go_simp; try with_reducible rfl)
  try simp only [Act.put, List.setIfInBounds_toArray, List.set_cons_zero, List.set_cons_succ]
  change wpAnyH _ _ _ _ _ 11 #[true, true, true, true, false, true, true, false, false, false, false, false, false, false, false, false, false] _ _
  refine heldTake (i := 7) (d := some 13) (v := ?v7_7) rfl rfl (by kernel_rfl) (by kernel_rfl) (by kernel_rfl) (fun _ _ _ h => h) (by rfl) ?hy7_7 (by assumption) ?r7_7
  case hy7_7 => (intro w hSw; (try dsimp only at hSw); go_simp; try with_reducible rfl)
  try simp only [Act.put, List.setIfInBounds_toArray, List.set_cons_zero, List.set_cons_succ]
  change wpAnyH _ _ _ _ _ 10 #[true, true, true, true, false, true, true, true, false, false, false, false, false, false, false, false, false] _ _
  refine heldTake (i := 8) (d := some 14) (v := ?v8_8) rfl rfl (by kernel_rfl) (by kernel_rfl) (by kernel_rfl) (fun _ _ _ h => h) (by rfl) ?hy8_8 (by assumption) ?r8_8
  case hy8_8 => (intro w hSw; have q0 := keepCell hSw hc2; go_simp; try with_reducible rfl)
  try simp only [Act.put, List.setIfInBounds_toArray, List.set_cons_zero, List.set_cons_succ]
  change wpAnyH _ _ _ _ _ 9 #[true, true, true, true, false, true, true, true, true, false, false, false, false, false, false, false, false] _ _
  refine heldTake (i := 11) (d := some 17) (v := ?v11_9) rfl rfl (by kernel_rfl) (by kernel_rfl) (by kernel_rfl) (fun _ _ _ h => h) (by rfl) ?hy11_9 (by assumption) ?r11_9
  case hy11_9 => (intro w hSw; (try dsimp only at hSw); go_simp; try with_reducible rfl)
  try simp only [Act.put, List.setIfInBounds_toArray, List.set_cons_zero, List.set_cons_succ]
  change wpAnyH _ _ _ _ _ 8 #[true, true, true, true, false, true, true, true, true, false, false, true, false, false, false, false, false] _ _
  refine heldTake (i := 12) (d := some 18) (v := ?v12_10) rfl rfl (by kernel_rfl) (by kernel_rfl) (by kernel_rfl) (fun _ _ _ h => h) (by rfl) ?hy12_10 (by assumption) ?r12_10
  case hy12_10 => (intro w hSw; (try dsimp only at hSw); go_simp; try with_reducible rfl)
  try simp only [Act.put, List.setIfInBounds_toArray, List.set_cons_zero, List.set_cons_succ]
  change wpAnyH _ _ _ _ _ 7 #[true, true, true, true, false, true, true, true, true, false, false, true, true, false, false, false, false] _ _
  refine wpAnyH_ready (rs := [4]) (by kernel_rfl) (by simp) ?_
  refine AllReadyH.cons rfl (fun K hK => ?_) AllReadyH.nil
  go_simp
  refine (HN1.out _).mono ?_
  rintro e z ⟨rfl, rfl⟩
  go_wp2
  refine hK.out _ _ hHeld (fun hHeld => ?_)
  clear hK K
  try simp only [Act.put, List.setIfInBounds_toArray, List.set_cons_zero, List.set_cons_succ]
  change wpAnyH _ _ _ _ _ 6 #[true, true, true, true, true, true, true, true, true, false, false, true, true, false, false, false, false] _ _
  refine wpAnyH_ready (rs := [9]) (by kernel_rfl) (by simp) ?_
  refine AllReadyH.cons rfl (fun K hK => ?_) AllReadyH.nil
  go_simp
  refine (HN2.out _).mono ?_
  rintro e z ⟨rfl, rfl⟩
  go_wp2
  refine hK.out _ _ hHeld (fun hHeld => ?_)
  clear hK K
  try simp only [Act.put, List.setIfInBounds_toArray, List.set_cons_zero, List.set_cons_succ]
  change wpAnyH _ _ _ _ _ 5 #[true, true, true, true, true, true, true, true, true, true, false, true, true, false, false, false, false] _ _
  refine wpAnyH_ready (rs := [10]) (by kernel_rfl) (by simp) ?_
  refine AllReadyH.cons rfl (fun K hK => ?_) AllReadyH.nil
  go_simp
  refine (HC1.out _).mono ?_
  rintro e z ⟨rfl, rfl⟩
  go_wp2
  refine hK.out _ _ hHeld (fun hHeld => ?_)
  clear hK K
  try simp only [Act.put, List.setIfInBounds_toArray, List.set_cons_zero, List.set_cons_succ]
  change wpAnyH _ _ _ _ _ 4 #[true, true, true, true, true, true, true, true, true, true, true, true, true, false, false, false, false] _ _
  refine wpAnyH_ready (rs := [13]) (by kernel_rfl) (by simp) ?_
  refine AllReadyH.cons rfl (fun K hK => ?_) AllReadyH.nil
  go_simp
  refine (HC2.out _).mono ?_
  rintro e z ⟨rfl, rfl⟩
  go_wp2
  refine hK.out _ _ hHeld (fun hHeld => ?_)
  clear hK K
  try simp only [Act.put, List.setIfInBounds_toArray, List.set_cons_zero, List.set_cons_succ]
  change wpAnyH _ _ _ _ _ 3 #[true, true, true, true, true, true, true, true, true, true, true, true, true, true, false, false, false] _ _
  refine wpAnyH_ready (rs := [14]) (by kernel_rfl) (by simp) ?_
  refine AllReadyH.cons rfl (fun K hK => ?_) AllReadyH.nil
  go_simp
  skip
  go_wp2
  refine hK.out _ _ (keepAlloc hHeld) (fun hHeld => ?_)
  clear hK K
  try simp only [Act.put, List.setIfInBounds_toArray, List.set_cons_zero, List.set_cons_succ]
  change wpAnyH _ _ _ _ _ 2 #[true, true, true, true, true, true, true, true, true, true, true, true, true, true, true, false, false] _ _
  refine wpAnyH_ready (rs := [15]) (by kernel_rfl) (by simp) ?_
  refine AllReadyH.cons rfl (fun K hK => ?_) AllReadyH.nil
  go_simp
  refine (or_any _ _ _ _ ((Blk.new W [.int .i64 (cmpN N1 N2), .int .i64 (cmpN x y)] 3).drew.cell 0 rfl) ((Blk.new W [.int .i64 (cmpN N1 N2), .int .i64 (cmpN x y)] 3).drew.cell 1 rfl)).mono ?_
  rintro e z ⟨rfl, rfl⟩
  go_wp2
  refine hK.out _ _ hHeld (fun hHeld => ?_)
  clear hK K
  try simp only [Act.put, List.setIfInBounds_toArray, List.set_cons_zero, List.set_cons_succ]
  change wpAnyH _ _ _ _ _ 1 #[true, true, true, true, true, true, true, true, true, true, true, true, true, true, true, true, false] _ _
  refine heldTake (i := 16) (d := some 5) (v := ?v16_17) rfl rfl (by kernel_rfl) (by kernel_rfl) (by kernel_rfl) (fun _ _ _ h => h) (by rfl) ?hy16_17 (by assumption) ?r16_17
  case hy16_17 => (intro w hSw; (try dsimp only at hSw); go_simp; try with_reducible rfl)
  try simp only [Act.put, List.setIfInBounds_toArray, List.set_cons_zero, List.set_cons_succ]
  change wpAnyH _ _ _ _ _ 0 #[true, true, true, true, true, true, true, true, true, true, true, true, true, true, true, true, true] _ _
  refine wpAnyH_done (by kernel_rfl) ?_ 0
  go_wp2
  go_ret
  obtain ⟨os, hos⟩ := hHeld
  exact ⟨by rw [HCF.out]; rfl, 1, os, hos⟩
end Go.Proofs.Ytdehkaknbmbieaa
namespace Go.Proofs.Ytdehkaknbmbieaa
set_option linter.unusedVariables false
set_option linter.unusedSimpArgs false
set_option linter.unusedSectionVars false
open Go.RowKit
set_option linter.unusedVariables false

theorem sortW_upd {α : Type} [Inhabited α] (enc : α → Value) (w : World) (blk off m : Nat) (d : Array α) (os : Array Obj) : Upd [blk] w (sortWorld enc w blk off m d os) := by
  unfold sortWorld
  refine ⟨rfl, rfl, rfl, by simp, fun k hk hn => ?_⟩
  have hb : blk ≠ k := fun e => hn (by simp [e])
  rw [Sort.heap_grow_old _ _ (by simpa using hk)]
  simp [Sort.putRow, Sort.mapBlock, Array.getElem?_modify, hb]
theorem sortW_row {α : Type} [Inhabited α] (enc : α → Value) (w : World) (blk m k cap : Nat) (e : TypeId) (d : List α) (xs : List Value) (os : Array Obj) (hd : d.length = k) (hR : Row w e 1 (.slice (some ⟨blk, 0, none⟩) k cap) k xs) :
    Row (sortWorld enc w blk 0 m d.toArray os) e 1 (.slice (some ⟨blk, 0, none⟩) k cap) k (d.map enc) := by
  obtain ⟨h1, h2⟩ := hR
  rcases h2 with ⟨e1, _⟩ | ⟨g, c, cur, e1, hb, hh, hc, hm, hs, ht⟩
  · cases e1
  · injection e1 with e1 e2 e3
    injection e1 with e1
    injection e1 with e1 e4
    subst e1 e3
    have hlt : blk < w.heap.size := (Array.getElem?_eq_some_iff.1 hh).1
    refine ⟨by simp [hd], .inr ⟨blk, cap, Sort.putCells enc 0 d.toArray cur, rfl, Nat.zero_le _, ?_, hc, hm, by simp [Sort.putCells, hs], ?_⟩⟩
    · unfold sortWorld
      rw [Sort.heap_grow_old _ _ (by simpa using hlt)]
      simp [Sort.putRow, Sort.mapBlock, Array.getElem?_modify, Sort.ahead, hh, Sort.onCells]
    · apply List.ext_getElem?
      intro i
      rw [List.getElem?_take]
      by_cases hi : i < k
      · rw [if_pos (by omega)]
        have hic : i < cur.size := by omega
        simp [Sort.putCells, hi, hd, hic, List.getElem?_eq_getElem (show i < d.length by omega)]
      · rw [if_neg (by omega), List.getElem?_eq_none (by simp; omega)]
end Go.Proofs.Ytdehkaknbmbieaa
namespace Go.Proofs
open Go.Shelf
def Ytdehkaknbmbieaa.sortL_ren : Go.Shelf.Ren := ⟨fun | 6 => 48 | 15 => 78 | 14 => 77 | 28 => 110 | 29 => 111 | 20 => 102 | 21 => 103 | 22 => 104 | 23 => 105 | 24 => 106 | 25 => 107 | 26 => 108 | 27 => 109 | 46 => 131 | 47 => 132 | 48 => 133 | 49 => 134 | 50 => 135 | 57 => 148 | n => n, fun | 22 => 22 | 24 => 3 | 25 => 91 | 3 => 3 | 39 => 31 | 0 => 0 | 53 => 78 | 55 => 68 | 4 => 4 | 46 => 162 | 45 => 161 | 50 => 166 | 5 => 5 | 9 => 9 | 66 => 190 | 70 => 193 | 76 => 212 | 77 => 195 | n => n, fun | n => n⟩
theorem Ytdehkaknbmbieaa.sortL : Go.Proofs.SlLaysF.n6 Try.prog Ytdehkaknbmbieaa.sortL_ren := {
  mixed := by kernel_rfl
  f6 := ⟨Try.f48.name, by decide, Try.func48.trans (congrArg some (by kernel_rfl))⟩
  f14 := ⟨Try.f77.name, by decide, Try.func77.trans (congrArg some (by kernel_rfl))⟩
  f15 := Try.func78.trans (congrArg some (by kernel_rfl))
  f20 := ⟨Try.f102.name, by decide, Try.func102.trans (congrArg some (by kernel_rfl))⟩
  f21 := ⟨Try.f103.name, by decide, Try.func103.trans (congrArg some (by kernel_rfl))⟩
  f22 := ⟨Try.f104.name, by decide, Try.func104.trans (congrArg some (by kernel_rfl))⟩
  f23 := ⟨Try.f105.name, by decide, Try.func105.trans (congrArg some (by kernel_rfl))⟩
  f24 := ⟨Try.f106.name, by decide, Try.func106.trans (congrArg some (by kernel_rfl))⟩
  f25 := ⟨Try.f107.name, by decide, Try.func107.trans (congrArg some (by kernel_rfl))⟩
  f26 := ⟨Try.f108.name, by decide, Try.func108.trans (congrArg some (by kernel_rfl))⟩
  f27 := ⟨Try.f109.name, by decide, Try.func109.trans (congrArg some (by kernel_rfl))⟩
  f28 := Try.func110.trans (congrArg some (by kernel_rfl))
  f29 := Try.func111.trans (congrArg some (by kernel_rfl))
  f46 := ⟨Try.f131.name, by decide, Try.func131.trans (congrArg some (by kernel_rfl))⟩
  f47 := Try.func132.trans (congrArg some (by kernel_rfl))
  f48 := Try.func133.trans (congrArg some (by kernel_rfl))
  f49 := ⟨Try.f134.name, by decide, Try.func134.trans (congrArg some (by kernel_rfl))⟩
  f50 := ⟨Try.f135.name, by decide, Try.func135.trans (congrArg some (by kernel_rfl))⟩
  f57 := ⟨Try.f148.name, by decide, Try.func148.trans (congrArg some (by kernel_rfl))⟩
  t0 := Try.underlying0
  a0 := Try.isAgg0
  z0 := Try.sizeOf0
  v0 := Try.zeroValue0
  t3 := Try.underlying3
  a3 := Try.isAgg3
  z3 := Try.sizeOf3
  v3 := Try.zeroValue3
  t4 := Try.underlying4
  a4 := Try.isAgg4
  z4 := Try.sizeOf4
  v4 := Try.zeroValue4
  t5 := Try.underlying5
  a5 := Try.isAgg5
  z5 := Try.sizeOf5
  v5 := Try.zeroValue5
  t9 := Try.underlying9
  a9 := Try.isAgg9
  z9 := Try.sizeOf9
  v9 := Try.zeroValue9
  t22 := Try.underlying22
  a22 := Try.isAgg22
  z22 := Try.sizeOf22
  v22 := Try.zeroValue22
  a24 := Try.isAgg3
  z24 := Try.sizeOf3
  t25 := Try.underlying91
  a25 := Try.isAgg91
  z25 := Try.sizeOf91
  v25 := Try.zeroValue91
  t39 := Try.underlying31
  a39 := Try.isAgg31
  z39 := Try.sizeOf31
  v39 := Try.zeroValue31
  t45 := Try.underlying161
  a45 := Try.isAgg161
  z45 := Try.sizeOf161
  v45 := Try.zeroValue161
  t46 := Try.underlying162
  a46 := Try.isAgg162
  z46 := Try.sizeOf162
  v46 := Try.zeroValue162
  t50 := Try.underlying166
  a50 := Try.isAgg166
  z50 := Try.sizeOf166
  v50 := Try.zeroValue166
  t53 := Try.underlying78
  a53 := Try.isAgg78
  z53 := Try.sizeOf78
  v53 := Try.zeroValue78
  t55 := Try.underlying68
  a55 := Try.isAgg68
  z55 := Try.sizeOf68
  v55 := Try.zeroValue68
  t66 := Try.underlying190
  a66 := Try.isAgg190
  z66 := Try.sizeOf190
  v66 := Try.zeroValue190
  t70 := Try.underlying193
  a70 := Try.isAgg193
  z70 := Try.sizeOf193
  v70 := Try.zeroValue193
  t76 := Try.underlying212
  a76 := Try.isAgg212
  z76 := Try.sizeOf212
  v76 := Try.zeroValue212
  t77 := Try.underlying195
  a77 := Try.isAgg195
  z77 := Try.sizeOf195
  v77 := Try.zeroValue195 }
end Go.Proofs
namespace Go.Proofs.Ytdehkaknbmbieaa
set_option linter.unusedVariables false
set_option linter.unusedSimpArgs false
set_option linter.unusedSectionVars false
open Go.RowKit

/-- A row of the call's own: it lies behind w0. -/
def OwnX (w0 w : World) (e : TypeId) (v : Value) (xs : List Value) : Prop := Row w e 1 v xs.length xs ∧ ∀ k, v.ownBlock = some k → w0.heap.size ≤ k
theorem OwnX.nil (w0 w : World) (e : TypeId) : OwnX w0 w e (.slice none 0 0) [] := ⟨Row.nil _ _ _, fun k h => by cases h⟩
theorem OwnX.upd {w0 w w' : World} {e : TypeId} {v : Value} {xs : List Value} (h : OwnX w0 w e v xs) (hu : Upd [] w w') : OwnX w0 w' e v xs := ⟨h.1.upd hu (by simp), h.2⟩
theorem OwnX.app {w0 w wm w' : World} {e : TypeId} {v v' : Value} {xs ys : List Value} (h : OwnX w0 w e v xs) (hu : Upd [] w0 w) (hm : Upd [] w wm) (hR : Row w' e 1 v' (xs.length + ys.length) (xs ++ ys)) (hU : Upd v.ownBlock.toList wm w') (hT : Later wm v v') :
    OwnX w0 w' e v' (xs ++ ys) ∧ Upd [] w0 w' := by
  refine ⟨⟨by rw [List.length_append]; exact hR, fun k hk => ?_⟩, (hu.then hm).trans hU (fun k hk => .inr (h.2 k (by simpa using hk)))⟩
  rcases hT with h1 | ⟨g, h1, h2⟩
  · exact h.2 k (by rw [← h1]; exact hk)
  · rw [h1] at hk; simp at hk h2; have := (hu.then hm).size; omega
theorem OwnX.form {w0 w : World} {e : TypeId} {v : Value} {xs : List Value} (h : OwnX w0 w e v xs) : ∃ a c, v = .slice a xs.length c := h.1.form
theorem OwnX.base {w0 w1 w : World} {e : TypeId} {v : Value} {xs : List Value} (h : OwnX w1 w e v xs) (hs : w0.heap.size ≤ w1.heap.size) : OwnX w0 w e v xs := ⟨h.1, fun k hk => Nat.le_trans hs (h.2 k hk)⟩
end Go.Proofs.Ytdehkaknbmbieaa
