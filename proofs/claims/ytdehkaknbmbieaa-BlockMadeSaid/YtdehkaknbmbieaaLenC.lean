/- Package lens: the comparison by which the symbols are sorted. -/
import Derived.Test.YtdehkaknbmbieaaGO
import Derived.Test.YtdehkaknbmbieaaHeld
import Derived.Sort.Grow
namespace Go.Proofs.Ytdehkaknbmbieaa
set_option linter.unusedVariables false
set_option linter.unusedSimpArgs false
set_option linter.unusedSectionVars false
open Go.RowKit
set_option linter.unusedVariables false
set_option linter.unusedSimpArgs false

theorem keepCell {W w : World} {p : Addr} {v : Value} (h : ∃ os, w = Go.Sort.grow W.drew os) (hc : W.cell? p = some v) : w.cell? p = some v := by
  obtain ⟨os, rfl⟩ := h
  exact (Go.Sort.cell?_grow W.drew os p (World.block_lt_of_cell? W _ hc)).trans hc
theorem keepAlloc {W w : World} {o : Obj} (h : ∃ os, w = Go.Sort.grow W.drew os) : ∃ os, w.alloc o = Go.Sort.grow W.drew os := by
  obtain ⟨os, rfl⟩ := h
  exact ⟨os ++ #[o], by rw [Go.Sort.alloc_eq_grow, Go.Sort.grow_grow]⟩
def cfN (many : List Int) (x y : Nat) : Int := orN (cmpN (nearN (many.getD x 0)) (nearN (many.getD y 0))) (cmpN x y)
set_option maxRecDepth 100000 in
set_option maxHeartbeats 3200000 in
theorem usedCmp_any (many : List Int) (a : Option Addr) (n cap bx x y : Nat) (W : World) (hb : W.cell? ⟨bx, 0, none⟩ = some (.slice a n cap)) (hI : IntsIn W a n many) (hx : x < n) (hy : y < n) (hn : n ≤ 1000000) :
    Calls Try.prog 49 #[.int .i64 (x : Nat), .int .i64 (y : Nat), .pointer (some ⟨bx, 0, none⟩)] W fun e w' => e = .returned (.int .i64 (cfN many x y)) ∧ ∃ q os, w' = Go.Sort.grow (W.drewN q) os := by
  have hx1 : x < many.length := by rw [hI.len]; exact hx
  have hy1 : y < many.length := by rw [hI.len]; exact hy
  obtain ⟨b, off, rfl, hc1, r1, r2⟩ := hI.cell x hx1
  obtain ⟨b', off', hbo, hc2, r3, r4⟩ := hI.cell y hy1
  injection hbo with hbo
  injection hbo with e1 e2
  subst e1 e2
  have HCF : Hid (cfN many x y = orN (cmpN (nearN many[x]) (nearN many[y])) (cmpN x y)) := Lib.hid (by unfold cfN; simp [List.getD_eq_getElem?_getD, hx1, hy1])
  generalize many[x] = v1 at *
  generalize many[y] = v2 at *
  have HN1 := Lib.hid (fun w => near_any v1 w)
  have HN2 := Lib.hid (fun w => near_any v2 w)
  generalize nearN v1 = N1 at *
  generalize nearN v2 = N2 at *
  have HC1 := Lib.hid (fun w => compare_any N1 N2 w)
  have HC2 := Lib.hid (fun w => compare_any x y w)
  have hxz : (x : Int) < (n : Int) := by omega
  have hyz : (y : Int) < (n : Int) := by omega
  clear hI hx1 hy1
  go_enter Try.func49, Try.ntmps49
  go_wp2
  refine wp_region_held_drew (S := fun w' => ∃ os, w' = Go.Sort.grow W.drew os) (by kernel_rfl) ⟨#[], by rw [Go.Sort.grow_empty]⟩ (fun hHeld => ?_)
  change wpAnyH _ _ _ _ _ 17 #[false, false, false, false, false, false, false, false, false, false, false, false, false, false, false, false, false] _ _
  refine heldTake (i := 0) (d := some 6) (v := ?v0_1) rfl rfl (by kernel_rfl) (by kernel_rfl) (by kernel_rfl) (fun _ _ _ h => h) (by rfl) ?hy0_1 (by assumption) ?r0_1
  case hy0_1 => (intro w hSw; have q0 := keepCell hSw hb; go_simp; try with_reducible rfl)
  try simp only [Act.put, List.setIfInBounds_toArray, List.set_cons_zero, List.set_cons_succ]
  change wpAnyH _ _ _ _ _ 16 #[true, false, false, false, false, false, false, false, false, false, false, false, false, false, false, false, false] _ _
  refine heldTake (i := 1) (d := some 7) (v := ?v1_2) rfl rfl (by kernel_rfl) (by kernel_rfl) (by kernel_rfl) (fun _ _ _ h => h) (by rfl) ?hy1_2 (by assumption) ?r1_2
  case hy1_2 => (intro w hSw; (try dsimp only at hSw); go_simp; try with_reducible rfl)
  try simp only [Act.put, List.setIfInBounds_toArray, List.set_cons_zero, List.set_cons_succ]
  change wpAnyH _ _ _ _ _ 15 #[true, true, false, false, false, false, false, false, false, false, false, false, false, false, false, false, false] _ _
  refine heldTake (i := 2) (d := some 8) (v := ?v2_3) rfl rfl (by kernel_rfl) (by kernel_rfl) (by kernel_rfl) (fun _ _ _ h => h) (by rfl) ?hy2_3 (by assumption) ?r2_3
  case hy2_3 => (intro w hSw; (try dsimp only at hSw); go_simp; try with_reducible rfl)
  try simp only [Act.put, List.setIfInBounds_toArray, List.set_cons_zero, List.set_cons_succ]
  change wpAnyH _ _ _ _ _ 14 #[true, true, true, false, false, false, false, false, false, false, false, false, false, false, false, false, false] _ _
  refine heldTake (i := 3) (d := some 9) (v := ?v3_4) rfl rfl (by kernel_rfl) (by kernel_rfl) (by kernel_rfl) (fun _ _ _ h => h) (by rfl) ?hy3_4 (by assumption) ?r3_4
  case hy3_4 => (intro w hSw; have q0 := keepCell hSw hc1; go_simp; try with_reducible rfl)
  try simp only [Act.put, List.setIfInBounds_toArray, List.set_cons_zero, List.set_cons_succ]
  change wpAnyH _ _ _ _ _ 13 #[true, true, true, true, false, false, false, false, false, false, false, false, false, false, false, false, false] _ _
  refine heldTake (i := 5) (d := some 11) (v := ?v5_5) rfl rfl (by kernel_rfl) (by kernel_rfl) (by kernel_rfl) (fun _ _ _ h => h) (by rfl) ?hy5_5 (by assumption) ?r5_5
  case hy5_5 => (intro w hSw; have q0 := keepCell hSw hb; go_simp; try with_reducible rfl)
  try simp only [Act.put, List.setIfInBounds_toArray, List.set_cons_zero, List.set_cons_succ]
  change wpAnyH _ _ _ _ _ 12 #[true, true, true, true, false, true, false, false, false, false, false, false, false, false, false, false, false] _ _
  refine heldTake (i := 6) (d := some 12) (v := ?v6_6) rfl rfl (by kernel_rfl) (by kernel_rfl) (by kernel_rfl) (fun _ _ _ h => h) (by rfl) ?hy6_6 (by assumption) ?r6_6
  case hy6_6 => (intro w hSw; (try dsimp only at hSw); go_simp; try with_reducible rfl)
  try simp only [Act.put, List.setIfInBounds_toArray, List.set_cons_zero, List.set_cons_succ]
  change wpAnyH _ _ _ _ _ 11 #[true, true, true, true, false, true, true, false, false, false, false, false, false, false, false, false, false] _ _
  refine heldTake (i := 7) (d := some 13) (v := ?v7_7) rfl rfl (by kernel_rfl) (by kernel_rfl) (by kernel_rfl) (fun _ _ _ h => h) (by rfl) ?hy7_7 (by assumption) ?r7_7
  case hy7_7 => (intro w hSw; (try dsimp only at hSw); go_simp; try with_reducible rfl)
  try simp only [Act.put, List.setIfInBounds_toArray, List.set_cons_zero, List.set_cons_succ]
  change wpAnyH _ _ _ _ _ 10 #[true, true, true, true, false, true, true, true, false, false, false, false, false, false, false, false, false] _ _
  refine heldTake (i := 8) (d := some 14) (v := ?v8_8) rfl rfl (by kernel_rfl) (by kernel_rfl) (by kernel_rfl) (fun _ _ _ h => h) (by rfl) ?hy8_8 (by assumption) ?r8_8
  case hy8_8 => (intro w hSw; have q0 := keepCell hSw hc2; go_simp; try with_reducible rfl)
  try simp only [Act.put, List.setIfInBounds_toArray, List.set_cons_zero, List.set_cons_succ]
  change wpAnyH _ _ _ _ _ 9 #[true, true, true, true, false, true, true, true, true, false, false, false, false, false, false, false, false] _ _
  refine heldTake (i := 11) (d := some 17) (v := ?v11_9) rfl rfl (by kernel_rfl) (by kernel_rfl) (by kernel_rfl) (fun _ _ _ h => h) (by rfl) ?hy11_9 (by assumption) ?r11_9
  case hy11_9 => (intro w hSw; (try dsimp only at hSw); go_simp; try with_reducible rfl)
  try simp only [Act.put, List.setIfInBounds_toArray, List.set_cons_zero, List.set_cons_succ]
  change wpAnyH _ _ _ _ _ 8 #[true, true, true, true, false, true, true, true, true, false, false, true, false, false, false, false, false] _ _
  refine heldTake (i := 12) (d := some 18) (v := ?v12_10) rfl rfl (by kernel_rfl) (by kernel_rfl) (by kernel_rfl) (fun _ _ _ h => h) (by rfl) ?hy12_10 (by assumption) ?r12_10
  case hy12_10 => (intro w hSw; (try dsimp only at hSw); go_simp; try with_reducible rfl)
  try simp only [Act.put, List.setIfInBounds_toArray, List.set_cons_zero, List.set_cons_succ]
  change wpAnyH _ _ _ _ _ 7 #[true, true, true, true, false, true, true, true, true, false, false, true, true, false, false, false, false] _ _
  refine wpAnyH_ready (rs := [4]) (by kernel_rfl) (by simp) ?_
  refine AllReadyH.cons rfl (fun K hK => ?_) AllReadyH.nil
  go_simp
  refine (HN1.out _).mono ?_
  rintro e z ⟨rfl, rfl⟩
  go_wp2
  refine hK.out _ _ hHeld (fun hHeld => ?_)
  clear hK K
  try simp only [Act.put, List.setIfInBounds_toArray, List.set_cons_zero, List.set_cons_succ]
  change wpAnyH _ _ _ _ _ 6 #[true, true, true, true, true, true, true, true, true, false, false, true, true, false, false, false, false] _ _
  refine wpAnyH_ready (rs := [9]) (by kernel_rfl) (by simp) ?_
  refine AllReadyH.cons rfl (fun K hK => ?_) AllReadyH.nil
  go_simp
  refine (HN2.out _).mono ?_
  rintro e z ⟨rfl, rfl⟩
  go_wp2
  refine hK.out _ _ hHeld (fun hHeld => ?_)
  clear hK K
  try simp only [Act.put, List.setIfInBounds_toArray, List.set_cons_zero, List.set_cons_succ]
  change wpAnyH _ _ _ _ _ 5 #[true, true, true, true, true, true, true, true, true, true, false, true, true, false, false, false, false] _ _
  refine wpAnyH_ready (rs := [10]) (by kernel_rfl) (by simp) ?_
  refine AllReadyH.cons rfl (fun K hK => ?_) AllReadyH.nil
  go_simp
  refine (HC1.out _).mono ?_
  rintro e z ⟨rfl, rfl⟩
  go_wp2
  refine hK.out _ _ hHeld (fun hHeld => ?_)
  clear hK K
  try simp only [Act.put, List.setIfInBounds_toArray, List.set_cons_zero, List.set_cons_succ]
  change wpAnyH _ _ _ _ _ 4 #[true, true, true, true, true, true, true, true, true, true, true, true, true, false, false, false, false] _ _
  refine wpAnyH_ready (rs := [13]) (by kernel_rfl) (by simp) ?_
  refine AllReadyH.cons rfl (fun K hK => ?_) AllReadyH.nil
  go_simp
  refine (HC2.out _).mono ?_
  rintro e z ⟨rfl, rfl⟩
  go_wp2
  refine hK.out _ _ hHeld (fun hHeld => ?_)
  clear hK K
  try simp only [Act.put, List.setIfInBounds_toArray, List.set_cons_zero, List.set_cons_succ]
  change wpAnyH _ _ _ _ _ 3 #[true, true, true, true, true, true, true, true, true, true, true, true, true, true, false, false, false] _ _
  refine wpAnyH_ready (rs := [14]) (by kernel_rfl) (by simp) ?_
  refine AllReadyH.cons rfl (fun K hK => ?_) AllReadyH.nil
  go_simp
  skip
  go_wp2
  refine hK.out _ _ (keepAlloc hHeld) (fun hHeld => ?_)
  clear hK K
  try simp only [Act.put, List.setIfInBounds_toArray, List.set_cons_zero, List.set_cons_succ]
  change wpAnyH _ _ _ _ _ 2 #[true, true, true, true, true, true, true, true, true, true, true, true, true, true, true, false, false] _ _
  refine wpAnyH_ready (rs := [15]) (by kernel_rfl) (by simp) ?_
  refine AllReadyH.cons rfl (fun K hK => ?_) AllReadyH.nil
  go_simp
  refine (or_any _ _ _ _ ((Blk.new W [.int .i64 (cmpN N1 N2), .int .i64 (cmpN x y)] 3).drew.cell 0 rfl) ((Blk.new W [.int .i64 (cmpN N1 N2), .int .i64 (cmpN x y)] 3).drew.cell 1 rfl)).mono ?_
  rintro e z ⟨rfl, rfl⟩
  go_wp2
  refine hK.out _ _ hHeld (fun hHeld => ?_)
  clear hK K
  try simp only [Act.put, List.setIfInBounds_toArray, List.set_cons_zero, List.set_cons_succ]
  change wpAnyH _ _ _ _ _ 1 #[true, true, true, true, true, true, true, true, true, true, true, true, true, true, true, true, false] _ _
  refine heldTake (i := 16) (d := some 5) (v := ?v16_17) rfl rfl (by kernel_rfl) (by kernel_rfl) (by kernel_rfl) (fun _ _ _ h => h) (by rfl) ?hy16_17 (by assumption) ?r16_17
  case hy16_17 => (intro w hSw; (try dsimp only at hSw); go_simp; try with_reducible rfl)
  try simp only [Act.put, List.setIfInBounds_toArray, List.set_cons_zero, List.set_cons_succ]
  change wpAnyH _ _ _ _ _ 0 #[true, true, true, true, true, true, true, true, true, true, true, true, true, true, true, true, true] _ _
  refine wpAnyH_done (by kernel_rfl) ?_ 0
  go_wp2
  go_ret
  obtain ⟨os, hos⟩ := hHeld
  exact ⟨by rw [HCF.out]; rfl, 1, os, hos⟩
end Go.Proofs.Ytdehkaknbmbieaa
