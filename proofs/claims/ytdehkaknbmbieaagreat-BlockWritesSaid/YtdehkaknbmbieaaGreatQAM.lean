/- Package lens: the comparison by which the symbols are sorted. -/
import Derived.Sort.Grow
import Derived.Test.YtdehkaknbmbieaaGreatQAG
import Derived.Shelf.SlSortCmp.NoneTotal
import Derived.Test.YtdehkaknbmbieaaGreatQAA
import Derived.Test.YtdehkaknbmbieaaGreatProg
namespace Go.Proofs.YtdehkaknbmbieaaGreat
set_option linter.unusedVariables false
set_option linter.unusedSimpArgs false
set_option linter.unusedSectionVars false
open Go.RowKit
set_option linter.unusedVariables false
set_option linter.unusedSimpArgs false

theorem keepCell {W w : World} {p : Addr} {v : Value} (h : ∃ os, w = Go.Sort.grow W.drew os) (hc : W.cell? p = some v) : w.cell? p = some v := by
  obtain ⟨os, rfl⟩ := h
  exact (Go.Sort.cell?_grow W.drew os p (World.block_lt_of_cell? W _ hc)).trans hc
theorem keepAlloc {W w : World} {o : Obj} (h : ∃ os, w = Go.Sort.grow W.drew os) : ∃ os, w.alloc o = Go.Sort.grow W.drew os := by
  obtain ⟨os, rfl⟩ := h
  exact ⟨os ++ #[o], by rw [Go.Sort.alloc_eq_grow, Go.Sort.grow_grow]⟩
def cfN (many : List Int) (x y : Nat) : Int := orN (cmpN (nearN (many.getD x 0)) (nearN (many.getD y 0))) (cmpN x y)
set_option maxRecDepth 100000 in
set_option maxHeartbeats 3200000 in
theorem usedCmp_any (many : List Int) (a : Option Addr) (n cap bx x y : Nat) (W : World) (hb : W.cell? ⟨bx, 0, none⟩ = some (.slice a n cap)) (hI : IntsIn W a n many) (hx : x < n) (hy : y < n) (hn : n ≤ 1000000) :
    Calls Tryz.prog 92 #[.int .i64 (x : Nat), .int .i64 (y : Nat), .pointer (some ⟨bx, 0, none⟩)] W fun e w' => e = .returned (.int .i64 (cfN many x y)) ∧ ∃ q os, w' = Go.Sort.grow (W.drewN q) os := by
  have hx1 : x < many.length := by rw [hI.len]; exact hx
  have hy1 : y < many.length := by rw [hI.len]; exact hy
  obtain ⟨b, off, rfl, hc1, r1, r2⟩ := hI.cell x hx1
  obtain ⟨b', off', hbo, hc2, r3, r4⟩ := hI.cell y hy1
  injection hbo with hbo
  injection hbo with e1 e2
  subst e1 e2
  have HCF : Hid (cfN many x y = orN (cmpN (nearN many[x]) (nearN many[y])) (cmpN x y)) := Lib.hid (by unfold cfN; simp [List.getD_eq_getElem?_getD, hx1, hy1])
  generalize many[x] = v1 at *
  generalize many[y] = v2 at *
  have HN1 := Lib.hid (fun w => near_any v1 w)
  have HN2 := Lib.hid (fun w => near_any v2 w)
  generalize nearN v1 = N1 at *
  generalize nearN v2 = N2 at *
  have HC1 := Lib.hid (fun w => compare_any N1 N2 w)
  have HC2 := Lib.hid (fun w => compare_any x y w)
  have hxz : (x : Int) < (n : Int) := by omega
  have hyz : (y : Int) < (n : Int) := by omega
  clear hI hx1 hy1
  go_enter Tryz.func92, Tryz.ntmps92
  go_wp2
  refine wp_region_held_drew (S := fun w' => ∃ os, w' = Go.Sort.grow W.drew os) (by kernel_rfl) ⟨#[], by rw [Go.Sort.grow_empty]⟩ (fun hHeld => ?_)
  change wpAnyH _ _ _ _ _ 17 #[false, false, false, false, false, false, false, false, false, false, false, false, false, false, false, false, false] _ _
  refine heldTake (i := 0) (d := some 6) (v := ?v0_1) rfl rfl (by kernel_rfl) (by kernel_rfl) (by kernel_rfl) (fun _ _ _ h => h) (by rfl) ?hy0_1 (by assumption) ?r0_1
  case hy0_1 => (intro w hSw; have q0 := keepCell hSw hb; go_simp; try with_reducible rfl)
  try simp only [Act.put, List.setIfInBounds_toArray, List.set_cons_zero, List.set_cons_succ]
  change wpAnyH _ _ _ _ _ 16 #[true, false, false, false, false, false, false, false, false, false, false, false, false, false, false, false, false] _ _
  refine heldTake (i := 1) (d := some 7) (v := ?v1_2) rfl rfl (by kernel_rfl) (by kernel_rfl) (by kernel_rfl) (fun _ _ _ h => h) (by rfl) ?hy1_2 (by assumption) ?r1_2
  case hy1_2 => (intro w hSw; (try dsimp only at hSw); go_simp; try with_reducible rfl)
  try simp only [Act.put, List.setIfInBounds_toArray, List.set_cons_zero, List.set_cons_succ]
  change wpAnyH _ _ _ _ _ 15 #[true, true, false, false, false, false, false, false, false, false, false, false, false, false, false, false, false] _ _
  refine heldTake (i := 2) (d := some 8) (v := ?v2_3) rfl rfl (by kernel_rfl) (by kernel_rfl) (by kernel_rfl) (fun _ _ _ h => h) (by rfl) ?hy2_3 (by assumption) ?r2_3
  case hy2_3 => (intro w hSw; (try dsimp only at hSw); go_simp; try with_reducible rfl)
  try simp only [Act.put, List.setIfInBounds_toArray, List.set_cons_zero, List.set_cons_succ]
  change wpAnyH _ _ _ _ _ 14 #[true, true, true, false, false, false, false, false, false, false, false, false, false, false, false, false, false] _ _
  refine heldTake (i := 3) (d := some 9) (v := ?v3_4) rfl rfl (by kernel_rfl) (by kernel_rfl) (by kernel_rfl) (fun _ _ _ h => h) (by rfl) ?hy3_4 (by assumption) ?r3_4
  case hy3_4 => (intro w hSw; have q0 := keepCell hSw hc1; go_simp; try with_reducible rfl)
  try simp only [Act.put, List.setIfInBounds_toArray, List.set_cons_zero, List.set_cons_succ]
  change wpAnyH _ _ _ _ _ 13 #[true, true, true, true, false, false, false, false, false, false, false, false, false, false, false, false, false] _ _
  refine heldTake (i := 5) (d := some 11) (v := ?v5_5) rfl rfl (by kernel_rfl) (by kernel_rfl) (by kernel_rfl) (fun _ _ _ h => h) (by rfl) ?hy5_5 (by assumption) ?r5_5
  case hy5_5 => (intro w hSw; have q0 := keepCell hSw hb; go_simp; try with_reducible rfl)
  try simp only [Act.put, List.setIfInBounds_toArray, List.set_cons_zero, List.set_cons_succ]
  change wpAnyH _ _ _ _ _ 12 #[true, true, true, true, false, true, false, false, false, false, false, false, false, false, false, false, false] _ _
  refine heldTake (i := 6) (d := some 12) (v := ?v6_6) rfl rfl (by kernel_rfl) (by kernel_rfl) (by kernel_rfl) (fun _ _ _ h => h) (by rfl) ?hy6_6 (by assumption) ?r6_6
  case hy6_6 => (intro w hSw; (try dsimp only at hSw); go_simp; try with_reducible rfl)
  try simp only [Act.put, List.setIfInBounds_toArray, List.set_cons_zero, List.set_cons_succ]
  change wpAnyH _ _ _ _ _ 11 #[true, true, true, true, false, true, true, false, false, false, false, false, false, false, false, false, false] _ _
  refine heldTake (i := 7) (d := some 13) (v := ?v7_7) rfl rfl (by kernel_rfl) (by kernel_rfl) (by kernel_rfl) (fun _ _ _ h => h) (by rfl) ?hy7_7 (by assumption) ?r7_7
  case hy7_7 => (intro w hSw; (try dsimp only at hSw); go_simp; try with_reducible rfl)
  try simp only [Act.put, List.setIfInBounds_toArray, List.set_cons_zero, List.set_cons_succ]
  change wpAnyH _ _ _ _ _ 10 #[true, true, true, true, false, true, true, true, false, false, false, false, false, false, false, false, false] _ _
  refine heldTake (i := 8) (d := some 14) (v := ?v8_8) rfl rfl (by kernel_rfl) (by kernel_rfl) (by kernel_rfl) (fun _ _ _ h => h) (by rfl) ?hy8_8 (by assumption) ?r8_8
  case hy8_8 => (intro w hSw; have q0 := keepCell hSw hc2; go_simp; try with_reducible rfl)
  try simp only [Act.put, List.setIfInBounds_toArray, List.set_cons_zero, List.set_cons_succ]
  change wpAnyH _ _ _ _ _ 9 #[true, true, true, true, false, true, true, true, true, false, false, false, false, false, false, false, false] _ _
  refine heldTake (i := 11) (d := some 17) (v := ?v11_9) rfl rfl (by kernel_rfl) (by kernel_rfl) (by kernel_rfl) (fun _ _ _ h => h) (by rfl) ?hy11_9 (by assumption) ?r11_9
  case hy11_9 => (intro w hSw; (try dsimp only at hSw); go_simp; try with_reducible rfl)
  try simp only [Act.put, List.setIfInBounds_toArray, List.set_cons_zero, List.set_cons_succ]
  change wpAnyH _ _ _ _ _ 8 #[true, true, true, true, false, true, true, true, true, false, false, true, false, false, false, false, false] _ _
  refine heldTake (i := 12) (d := some 18) (v := ?v12_10) rfl rfl (by kernel_rfl) (by kernel_rfl) (by kernel_rfl) (fun _ _ _ h => h) (by rfl) ?hy12_10 (by assumption) ?r12_10
  case hy12_10 => (intro w hSw; (try dsimp only at hSw); go_simp; try with_reducible rfl)
  try simp only [Act.put, List.setIfInBounds_toArray, List.set_cons_zero, List.set_cons_succ]
  change wpAnyH _ _ _ _ _ 7 #[true, true, true, true, false, true, true, true, true, false, false, true, true, false, false, false, false] _ _
  refine wpAnyH_ready (rs := [4]) (by kernel_rfl) (by simp) ?_
  refine AllReadyH.cons rfl (fun K hK => ?_) AllReadyH.nil
  go_simp
  refine (HN1.out _).mono ?_
  rintro e z ⟨rfl, rfl⟩
  go_wp2
  refine hK.out _ _ hHeld (fun hHeld => ?_)
  clear hK K
  try simp only [Act.put, List.setIfInBounds_toArray, List.set_cons_zero, List.set_cons_succ]
  change wpAnyH _ _ _ _ _ 6 #[true, true, true, true, true, true, true, true, true, false, false, true, true, false, false, false, false] _ _
  refine wpAnyH_ready (rs := [9]) (by kernel_rfl) (by simp) ?_
  refine AllReadyH.cons rfl (fun K hK => ?_) AllReadyH.nil
  go_simp
  refine (HN2.out _).mono ?_
  rintro e z ⟨rfl, rfl⟩
  go_wp2
  refine hK.out _ _ hHeld (fun hHeld => ?_)
  clear hK K
  try simp only [Act.put, List.setIfInBounds_toArray, List.set_cons_zero, List.set_cons_succ]
  change wpAnyH _ _ _ _ _ 5 #[true, true, true, true, true, true, true, true, true, true, false, true, true, false, false, false, false] _ _
  refine wpAnyH_ready (rs := [10]) (by kernel_rfl) (by simp) ?_
  refine AllReadyH.cons rfl (fun K hK => ?_) AllReadyH.nil
  go_simp
  refine (HC1.out _).mono ?_
  rintro e z ⟨rfl, rfl⟩
  go_wp2
  refine hK.out _ _ hHeld (fun hHeld => ?_)
  clear hK K
  try simp only [Act.put, List.setIfInBounds_toArray, List.set_cons_zero, List.set_cons_succ]
  change wpAnyH _ _ _ _ _ 4 #[true, true, true, true, true, true, true, true, true, true, true, true, true, false, false, false, false] _ _
  refine wpAnyH_ready (rs := [13]) (by kernel_rfl) (by simp) ?_
  refine AllReadyH.cons rfl (fun K hK => ?_) AllReadyH.nil
  go_simp
  refine (HC2.out _).mono ?_
  rintro e z ⟨rfl, rfl⟩
  go_wp2
  refine hK.out _ _ hHeld (fun hHeld => ?_)
  clear hK K
  try simp only [Act.put, List.setIfInBounds_toArray, List.set_cons_zero, List.set_cons_succ]
  change wpAnyH _ _ _ _ _ 3 #[true, true, true, true, true, true, true, true, true, true, true, true, true, true, false, false, false] _ _
  refine wpAnyH_ready (rs := [14]) (by kernel_rfl) (by simp) ?_
  refine AllReadyH.cons rfl (fun K hK => ?_) AllReadyH.nil
  go_simp
  skip
  go_wp2
  refine hK.out _ _ (keepAlloc hHeld) (fun hHeld => ?_)
  clear hK K
  try simp only [Act.put, List.setIfInBounds_toArray, List.set_cons_zero, List.set_cons_succ]
  change wpAnyH _ _ _ _ _ 2 #[true, true, true, true, true, true, true, true, true, true, true, true, true, true, true, false, false] _ _
  refine wpAnyH_ready (rs := [15]) (by kernel_rfl) (by simp) ?_
  refine AllReadyH.cons rfl (fun K hK => ?_) AllReadyH.nil
  go_simp
  refine (or_any _ _ _ _ ((Blk.new W [.int .i64 (cmpN N1 N2), .int .i64 (cmpN x y)] 3).drew.cell 0 rfl) ((Blk.new W [.int .i64 (cmpN N1 N2), .int .i64 (cmpN x y)] 3).drew.cell 1 rfl)).mono ?_
  rintro e z ⟨rfl, rfl⟩
  go_wp2
  refine hK.out _ _ hHeld (fun hHeld => ?_)
  clear hK K
  try simp only [Act.put, List.setIfInBounds_toArray, List.set_cons_zero, List.set_cons_succ]
  change wpAnyH _ _ _ _ _ 1 #[true, true, true, true, true, true, true, true, true, true, true, true, true, true, true, true, false] _ _
  refine heldTake (i := 16) (d := some 5) (v := ?v16_17) rfl rfl (by kernel_rfl) (by kernel_rfl) (by kernel_rfl) (fun _ _ _ h => h) (by rfl) ?hy16_17 (by assumption) ?r16_17
  case hy16_17 => (intro w hSw; (try dsimp only at hSw); go_simp; try with_reducible rfl)
  try simp only [Act.put, List.setIfInBounds_toArray, List.set_cons_zero, List.set_cons_succ]
  change wpAnyH _ _ _ _ _ 0 #[true, true, true, true, true, true, true, true, true, true, true, true, true, true, true, true, true] _ _
  refine wpAnyH_done (by kernel_rfl) ?_ 0
  go_wp2
  go_ret
  obtain ⟨os, hos⟩ := hHeld
  exact ⟨by rw [HCF.out]; rfl, 1, os, hos⟩
end Go.Proofs.YtdehkaknbmbieaaGreat
namespace Go.Proofs.YtdehkaknbmbieaaGreat
set_option linter.unusedVariables false
set_option linter.unusedSimpArgs false
set_option linter.unusedSectionVars false
open Go.RowKit
set_option linter.unusedVariables false

theorem sortW_upd {α : Type} [Inhabited α] (enc : α → Value) (w : World) (blk off m : Nat) (d : Array α) (os : Array Obj) : Upd [blk] w (sortWorld enc w blk off m d os) := by
  unfold sortWorld
  refine ⟨rfl, rfl, rfl, by simp, fun k hk hn => ?_⟩
  have hb : blk ≠ k := fun e => hn (by simp [e])
  rw [Sort.heap_grow_old _ _ (by simpa using hk)]
  simp [Sort.putRow, Sort.mapBlock, Array.getElem?_modify, hb]
theorem sortW_row {α : Type} [Inhabited α] (enc : α → Value) (w : World) (blk m k cap : Nat) (e : TypeId) (d : List α) (xs : List Value) (os : Array Obj) (hd : d.length = k) (hR : Row w e 1 (.slice (some ⟨blk, 0, none⟩) k cap) k xs) :
    Row (sortWorld enc w blk 0 m d.toArray os) e 1 (.slice (some ⟨blk, 0, none⟩) k cap) k (d.map enc) := by
  obtain ⟨h1, h2⟩ := hR
  rcases h2 with ⟨e1, _⟩ | ⟨g, c, cur, e1, hb, hh, hc, hm, hs, ht⟩
  · cases e1
  · injection e1 with e1 e2 e3
    injection e1 with e1
    injection e1 with e1 e4
    subst e1 e3
    have hlt : blk < w.heap.size := (Array.getElem?_eq_some_iff.1 hh).1
    refine ⟨by simp [hd], .inr ⟨blk, cap, Sort.putCells enc 0 d.toArray cur, rfl, Nat.zero_le _, ?_, hc, hm, by simp [Sort.putCells, hs], ?_⟩⟩
    · unfold sortWorld
      rw [Sort.heap_grow_old _ _ (by simpa using hlt)]
      simp [Sort.putRow, Sort.mapBlock, Array.getElem?_modify, Sort.ahead, hh, Sort.onCells]
    · apply List.ext_getElem?
      intro i
      rw [List.getElem?_take]
      by_cases hi : i < k
      · rw [if_pos (by omega)]
        have hic : i < cur.size := by omega
        simp [Sort.putCells, hi, hd, hic, List.getElem?_eq_getElem (show i < d.length by omega)]
      · rw [if_neg (by omega), List.getElem?_eq_none (by simp; omega)]
end Go.Proofs.YtdehkaknbmbieaaGreat
namespace Go.Proofs
open Go.Shelf
def YtdehkaknbmbieaaGreat.sortL_ren : Go.Shelf.Ren := ⟨fun | 6 => 91 | 15 => 130 | 14 => 129 | 28 => 148 | 29 => 149 | 20 => 140 | 21 => 141 | 22 => 142 | 23 => 143 | 24 => 144 | 25 => 145 | 26 => 146 | 27 => 147 | 46 => 152 | 47 => 153 | 48 => 154 | 49 => 155 | 50 => 156 | 57 => 157 | n => n, fun | 22 => 55 | 24 => 3 | 25 => 135 | 3 => 3 | 39 => 23 | 0 => 0 | 53 => 53 | 55 => 29 | 4 => 4 | 46 => 184 | 45 => 183 | 50 => 108 | 5 => 5 | 9 => 9 | 66 => 193 | 70 => 197 | 76 => 199 | 77 => 50 | n => n, fun | n => n⟩
theorem YtdehkaknbmbieaaGreat.sortL : Go.Proofs.SlLaysF.n6 Tryz.prog YtdehkaknbmbieaaGreat.sortL_ren := {
  mixed := by kernel_rfl
  f6 := ⟨Tryz.f91.name, by decide, Tryz.func91.trans (congrArg some (by kernel_rfl))⟩
  f14 := ⟨Tryz.f129.name, by decide, Tryz.func129.trans (congrArg some (by kernel_rfl))⟩
  f15 := Tryz.func130.trans (congrArg some (by kernel_rfl))
  f20 := ⟨Tryz.f140.name, by decide, Tryz.func140.trans (congrArg some (by kernel_rfl))⟩
  f21 := ⟨Tryz.f141.name, by decide, Tryz.func141.trans (congrArg some (by kernel_rfl))⟩
  f22 := ⟨Tryz.f142.name, by decide, Tryz.func142.trans (congrArg some (by kernel_rfl))⟩
  f23 := ⟨Tryz.f143.name, by decide, Tryz.func143.trans (congrArg some (by kernel_rfl))⟩
  f24 := ⟨Tryz.f144.name, by decide, Tryz.func144.trans (congrArg some (by kernel_rfl))⟩
  f25 := ⟨Tryz.f145.name, by decide, Tryz.func145.trans (congrArg some (by kernel_rfl))⟩
  f26 := ⟨Tryz.f146.name, by decide, Tryz.func146.trans (congrArg some (by kernel_rfl))⟩
  f27 := ⟨Tryz.f147.name, by decide, Tryz.func147.trans (congrArg some (by kernel_rfl))⟩
  f28 := Tryz.func148.trans (congrArg some (by kernel_rfl))
  f29 := Tryz.func149.trans (congrArg some (by kernel_rfl))
  f46 := ⟨Tryz.f152.name, by decide, Tryz.func152.trans (congrArg some (by kernel_rfl))⟩
  f47 := Tryz.func153.trans (congrArg some (by kernel_rfl))
  f48 := Tryz.func154.trans (congrArg some (by kernel_rfl))
  f49 := ⟨Tryz.f155.name, by decide, Tryz.func155.trans (congrArg some (by kernel_rfl))⟩
  f50 := ⟨Tryz.f156.name, by decide, Tryz.func156.trans (congrArg some (by kernel_rfl))⟩
  f57 := ⟨Tryz.f157.name, by decide, Tryz.func157.trans (congrArg some (by kernel_rfl))⟩
  t0 := Tryz.underlying0
  a0 := Tryz.isAgg0
  z0 := Tryz.sizeOf0
  v0 := Tryz.zeroValue0
  t3 := Tryz.underlying3
  a3 := Tryz.isAgg3
  z3 := Tryz.sizeOf3
  v3 := Tryz.zeroValue3
  t4 := Tryz.underlying4
  a4 := Tryz.isAgg4
  z4 := Tryz.sizeOf4
  v4 := Tryz.zeroValue4
  t5 := Tryz.underlying5
  a5 := Tryz.isAgg5
  z5 := Tryz.sizeOf5
  v5 := Tryz.zeroValue5
  t9 := Tryz.underlying9
  a9 := Tryz.isAgg9
  z9 := Tryz.sizeOf9
  v9 := Tryz.zeroValue9
  t22 := Tryz.underlying55
  a22 := Tryz.isAgg55
  z22 := Tryz.sizeOf55
  v22 := Tryz.zeroValue55
  a24 := Tryz.isAgg3
  z24 := Tryz.sizeOf3
  t25 := Tryz.underlying135
  a25 := Tryz.isAgg135
  z25 := Tryz.sizeOf135
  v25 := Tryz.zeroValue135
  t39 := Tryz.underlying23
  a39 := Tryz.isAgg23
  z39 := Tryz.sizeOf23
  v39 := Tryz.zeroValue23
  t45 := Tryz.underlying183
  a45 := Tryz.isAgg183
  z45 := Tryz.sizeOf183
  v45 := Tryz.zeroValue183
  t46 := Tryz.underlying184
  a46 := Tryz.isAgg184
  z46 := Tryz.sizeOf184
  v46 := Tryz.zeroValue184
  t50 := Tryz.underlying108
  a50 := Tryz.isAgg108
  z50 := Tryz.sizeOf108
  v50 := Tryz.zeroValue108
  t53 := Tryz.underlying53
  a53 := Tryz.isAgg53
  z53 := Tryz.sizeOf53
  v53 := Tryz.zeroValue53
  t55 := Tryz.underlying29
  a55 := Tryz.isAgg29
  z55 := Tryz.sizeOf29
  v55 := Tryz.zeroValue29
  t66 := Tryz.underlying193
  a66 := Tryz.isAgg193
  z66 := Tryz.sizeOf193
  v66 := Tryz.zeroValue193
  t70 := Tryz.underlying197
  a70 := Tryz.isAgg197
  z70 := Tryz.sizeOf197
  v70 := Tryz.zeroValue197
  t76 := Tryz.underlying199
  a76 := Tryz.isAgg199
  z76 := Tryz.sizeOf199
  v76 := Tryz.zeroValue199
  t77 := Tryz.underlying50
  a77 := Tryz.isAgg50
  z77 := Tryz.sizeOf50
  v77 := Tryz.zeroValue50 }
end Go.Proofs
namespace Go.Proofs.YtdehkaknbmbieaaGreat
set_option linter.unusedVariables false
set_option linter.unusedSimpArgs false
set_option linter.unusedSectionVars false
open Go.RowKit

/-- A row of the call's own: it lies behind w0. -/
def OwnX (w0 w : World) (e : TypeId) (v : Value) (xs : List Value) : Prop := Row w e 1 v xs.length xs ∧ ∀ k, v.ownBlock = some k → w0.heap.size ≤ k
theorem OwnX.nil (w0 w : World) (e : TypeId) : OwnX w0 w e (.slice none 0 0) [] := ⟨Row.nil _ _ _, fun k h => by cases h⟩
theorem OwnX.upd {w0 w w' : World} {e : TypeId} {v : Value} {xs : List Value} (h : OwnX w0 w e v xs) (hu : Upd [] w w') : OwnX w0 w' e v xs := ⟨h.1.upd hu (by simp), h.2⟩
theorem OwnX.app {w0 w wm w' : World} {e : TypeId} {v v' : Value} {xs ys : List Value} (h : OwnX w0 w e v xs) (hu : Upd [] w0 w) (hm : Upd [] w wm) (hR : Row w' e 1 v' (xs.length + ys.length) (xs ++ ys)) (hU : Upd v.ownBlock.toList wm w') (hT : Later wm v v') :
    OwnX w0 w' e v' (xs ++ ys) ∧ Upd [] w0 w' := by
  refine ⟨⟨by rw [List.length_append]; exact hR, fun k hk => ?_⟩, (hu.then hm).trans hU (fun k hk => .inr (h.2 k (by simpa using hk)))⟩
  rcases hT with h1 | ⟨g, h1, h2⟩
  · exact h.2 k (by rw [← h1]; exact hk)
  · rw [h1] at hk; simp at hk h2; have := (hu.then hm).size; omega
theorem OwnX.form {w0 w : World} {e : TypeId} {v : Value} {xs : List Value} (h : OwnX w0 w e v xs) : ∃ a c, v = .slice a xs.length c := h.1.form
theorem OwnX.base {w0 w1 w : World} {e : TypeId} {v : Value} {xs : List Value} (h : OwnX w1 w e v xs) (hs : w0.heap.size ≤ w1.heap.size) : OwnX w0 w e v xs := ⟨h.1, fun k hk => Nat.le_trans hs (h.2 k hk)⟩
end Go.Proofs.YtdehkaknbmbieaaGreat
