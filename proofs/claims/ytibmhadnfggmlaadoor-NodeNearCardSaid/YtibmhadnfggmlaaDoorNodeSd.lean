/- Package node: Same, Whole; cut: walks. -/
import Derived.Test.YtibmhadnfggmlaaDoorNodePd
import Derived.Test.YtibmhadnfggmlaaDoorGA
namespace Go.Proofs.YtibmhadnfggmlaaDoor
set_option linter.unusedVariables false
set_option linter.unusedSimpArgs false
set_option linter.unusedSectionVars false
open Go.RowKit
set_option linter.unusedVariables false

def printB (k m : Int) (t : Nat) (D : ByteArray) (k2 m2 : Int) (t2 : Nat) (D2 : ByteArray) : Bool := decide (k = k2 ∧ m = m2 ∧ (t : Int) = (t2 : Int) ∧ (D.size : Int) = (D2.size : Int) ∧ ((if k = 1 then crcOf D else 0 : Nat) : Int) = ((if k2 = 1 then crcOf D2 else 0 : Nat) : Int))
def nodeB (k m : Int) (t : Nat) (D : ByteArray) (k2 m2 : Int) (t2 : Nat) (D2 : ByteArray) : Bool := decide (k = k2 ∧ m = m2 ∧ (t : Int) = (t2 : Int) ∧ D = D2)
set_option maxRecDepth 100000 in
set_option maxHeartbeats 3200000 in
theorem same_any (k m : Int) (t : Nat) (D : ByteArray) (k2 m2 : Int) (t2 : Nat) (D2 : ByteArray) (w : World) (hD : D.size ≤ 9223372036854775807) (hD2 : D2.size ≤ 9223372036854775807) : Calls Tryd.prog 29 #[nodeV k m t D, nodeV k2 m2 t2 D2] w fun e w' => e = .returned (.bool (printB k m t D k2 m2 t2 D2)) ∧ Upd [] w w' := by
  have HP1 := Lib.hid (fun w' => print_any k m t D w' hD)
  have HP2 := Lib.hid (fun w' => print_any k2 m2 t2 D2 w' hD2)
  have HB := Lib.hid (show printB k m t D k2 m2 t2 D2 = decide (k = k2 ∧ m = m2 ∧ (t : Int) = (t2 : Int) ∧ (D.size : Int) = (D2.size : Int) ∧ ((if k = 1 then crcOf D else 0 : Nat) : Int) = ((if k2 = 1 then crcOf D2 else 0 : Nat) : Int)) from rfl)
  unfold nodeV printV at HP1 HP2
  unfold nodeV
  generalize (if k = 1 then crcOf D else 0 : Nat) = c1 at *
  generalize (if k2 = 1 then crcOf D2 else 0 : Nat) = c2 at *
  generalize printB k m t D k2 m2 t2 D2 = B at *
  go_enter Tryd.func29, Tryd.ntmps29
  go_upto_region 1 with fail
  have hA := (Blk.new w [.int .i64 k, .int .i64 m, .int .u32 (t : Nat), .string D] 42).alloc (.cells ([.int .i64 k2, .int .i64 m2, .int .u32 (t2 : Nat), .string D2]).toArray 42)
  have hC := Blk.new (w.alloc (.cells ([.int .i64 k, .int .i64 m, .int .u32 (t : Nat), .string D]).toArray 42)) [.int .i64 k2, .int .i64 m2, .int .u32 (t2 : Nat), .string D2] 42
  have hU : Upd [] w ((w.alloc (.cells ([.int .i64 k, .int .i64 m, .int .u32 (t : Nat), .string D]).toArray 42)).alloc (.cells ([.int .i64 k2, .int .i64 m2, .int .u32 (t2 : Nat), .string D2]).toArray 42)) := ((Upd.refl [] w).alloc _).alloc _
  rw [World.size_alloc] at hC
  change Code.wp _ _ _ _ ((w.alloc (.cells ([.int .i64 k, .int .i64 m, .int .u32 (t : Nat), .string D]).toArray 42)).alloc (.cells ([.int .i64 k2, .int .i64 m2, .int .u32 (t2 : Nat), .string D2]).toArray 42))
  generalize (w.alloc (.cells ([.int .i64 k, .int .i64 m, .int .u32 (t : Nat), .string D]).toArray 42)).alloc (.cells ([.int .i64 k2, .int .i64 m2, .int .u32 (t2 : Nat), .string D2]).toArray 42) = w1 at *
  generalize w.heap.size = b at *
  refine wp_region_held_drew (S := fun w' => Blk w' b [.int .i64 k, .int .i64 m, .int .u32 (t : Nat), .string D] 42 ∧ Blk w' (b + 1) [.int .i64 k2, .int .i64 m2, .int .u32 (t2 : Nat), .string D2] 42) (by kernel_rfl) ⟨hA, hC⟩ (fun hHeld => ?_)
  change wpAnyH _ _ _ _ _ 6 #[false, false, false, false, false, false] _ _
  refine heldTake (i := 0) (d := some 5) (v := ?v0_1) rfl rfl (by kernel_rfl) (by kernel_rfl) (by kernel_rfl) (fun _ _ _ h => h) (by rfl) ?hy0_1 (by assumption) ?r0_1
  case hy0_1 => (intro w hSw; have q0 := hSw.1.cell 0 rfl; have q1 := hSw.1.cell 1 rfl; have q2 := hSw.1.cell 2 rfl; have q3 := hSw.1.cell 3 rfl; go_simp; try with_reducible rfl)
  try simp only [Act.put, List.setIfInBounds_toArray, List.set_cons_zero, List.set_cons_succ]
  change wpAnyH _ _ _ _ _ 5 #[true, false, false, false, false, false] _ _
  refine heldTake (i := 2) (d := some 7) (v := ?v2_2) rfl rfl (by kernel_rfl) (by kernel_rfl) (by kernel_rfl) (fun _ _ _ h => h) (by rfl) ?hy2_2 (by assumption) ?r2_2
  case hy2_2 => (intro w hSw; have q0 := hSw.2.cell 0 rfl; have q1 := hSw.2.cell 1 rfl; have q2 := hSw.2.cell 2 rfl; have q3 := hSw.2.cell 3 rfl; go_simp; try with_reducible rfl)
  try simp only [Act.put, List.setIfInBounds_toArray, List.set_cons_zero, List.set_cons_succ]
  change wpAnyH _ _ _ _ _ 4 #[true, false, true, false, false, false] _ _
  refine wpAnyH_ready (rs := [1]) (by kernel_rfl) (by simp) ?_
  refine AllReadyH.cons rfl (fun K hK => ?_) AllReadyH.nil
  go_simp
  go_at_call 28
  refine (HP1.out _).mono ?_
  rintro e w2 ⟨rfl, hU2⟩
  have hS2 : Blk w2 b [.int .i64 k, .int .i64 m, .int .u32 (t : Nat), .string D] 42 ∧ Blk w2 (b + 1) [.int .i64 k2, .int .i64 m2, .int .u32 (t2 : Nat), .string D2] 42 := ⟨hHeld.1.upd hU2 (by simp), hHeld.2.upd hU2 (by simp)⟩
  go_wp2
  refine hK.out _ _ hS2 (fun hHeld => ?_)
  clear hK K
  try simp only [Act.put, List.setIfInBounds_toArray, List.set_cons_zero, List.set_cons_succ]
  change wpAnyH _ _ _ _ _ 3 #[true, true, true, false, false, false] _ _
  refine wpAnyH_ready (rs := [3]) (by kernel_rfl) (by simp) ?_
  refine AllReadyH.cons rfl (fun K hK => ?_) AllReadyH.nil
  go_simp
  go_at_call 28
  refine (HP2.out _).mono ?_
  rintro e w3 ⟨rfl, hU3⟩
  have hS3 : Blk w3 b [.int .i64 k, .int .i64 m, .int .u32 (t : Nat), .string D] 42 ∧ Blk w3 (b + 1) [.int .i64 k2, .int .i64 m2, .int .u32 (t2 : Nat), .string D2] 42 := ⟨hS2.1.upd hU3 (by simp), hS2.2.upd hU3 (by simp)⟩
  go_wp2
  refine hK.out _ _ hS3 (fun hHeld => ?_)
  clear hK K
  try simp only [Act.put, List.setIfInBounds_toArray, List.set_cons_zero, List.set_cons_succ]
  change wpAnyH _ _ _ _ _ 2 #[true, true, true, true, false, false] _ _
  refine heldTake (i := 4) (d := some 9) (v := (.bool B)) rfl rfl (by kernel_rfl) (by kernel_rfl) (by kernel_rfl) (fun _ _ _ h => h) (by rfl) ?hy4_5 (by assumption) ?r4_5
  case hy4_5 => (intro w hSw; rw [HB.out]; exact eqlPrint (by rfl) k m (t : Int) (D.size : Int) (c1 : Int) k2 m2 (t2 : Int) (D2.size : Int) (c2 : Int) (by rfl) (by rfl) w)
  try simp only [Act.put, List.setIfInBounds_toArray, List.set_cons_zero, List.set_cons_succ]
  change wpAnyH _ _ _ _ _ 1 #[true, true, true, true, true, false] _ _
  refine heldTake (i := 5) (d := some 4) (v := ?v5_6) rfl rfl (by kernel_rfl) (by kernel_rfl) (by kernel_rfl) (fun _ _ _ h => h) (by rfl) ?hy5_6 (by assumption) ?r5_6
  case hy5_6 => (intro w hSw; (try dsimp only at hSw); go_simp; try with_reducible rfl)
  try simp only [Act.put, List.setIfInBounds_toArray, List.set_cons_zero, List.set_cons_succ]
  change wpAnyH _ _ _ _ _ 0 #[true, true, true, true, true, true] _ _
  refine wpAnyH_done (by kernel_rfl) ?_ 0
  go_wp2
  go_returns
  exact ⟨rfl, (hU.drew.then hU2).then hU3⟩
set_option maxRecDepth 100000 in
set_option maxHeartbeats 1600000 in
theorem ncut_any (k m : Int) (t : Nat) (D : ByteArray) (w : World) (hD : D.size ≤ 9223372036854775807) : Calls Tryd.prog 26 #[nodeV k m t D] w fun e w' => e = .returned (nodeV k m t (D.extract 0 (min D.size 2000))) ∧ Upd [] w w' := by
  obtain ⟨n, hn⟩ : ∃ n, n = min D.size 2000 := ⟨_, rfl⟩
  have e1 : min (D.size : Int) 2000 = (n : Int) := by omega
  have b1 : n ≤ D.size := by omega
  rw [← hn]
  clear hn
  unfold nodeV
  go_enter Tryd.func26, Tryd.ntmps26
  go_wp2
  have hB := Blk.new (w.alloc (.cells #[.int .i64 k, .int .i64 m, .int .u32 (t : Nat), .string (D.extract 0 n)] 42)) [.int .i64 k, .int .i64 m, .int .u32 (t : Nat), .string (D.extract 0 n)] 42
  rw [World.size_alloc] at hB
  refine bodyPost_ret (results_cell_row rfl _ _ (w.heap.size + 1) 42 _ (0, 0) _ (by simp) hB Tryd.underlying42 rfl (by kernel_rfl)) (by simp) ⟨rfl, ?_⟩
  exact ((Upd.refl [] w).alloc _).alloc _
set_option maxRecDepth 100000 in
set_option maxHeartbeats 3200000 in
theorem whole_any (k m : Int) (t : Nat) (D : ByteArray) (k2 m2 : Int) (t2 : Nat) (D2 : ByteArray) (w : World) : Calls Tryd.prog 30 #[nodeV k m t D, nodeV k2 m2 t2 D2] w fun e w' => e = .returned (.bool (nodeB k m t D k2 m2 t2 D2)) ∧ Upd [] w w' := by
  unfold nodeV
  by_cases h0 : k = k2
  · by_cases h1 : m = m2
    · by_cases h2 : t = t2
      · by_cases h3 : D = D2
        · subst h0 h1 h2 h3
          have HB := Lib.hid (show nodeB k m t D k m t D = true from by simp [nodeB])
          go_enter Tryd.func30, Tryd.ntmps30
          go_wp2
          go_returns
          exact ⟨by rw [HB.out]; rfl, ((Upd.refl _ _).alloc _).alloc _⟩
        · have HB := Lib.hid (show nodeB k m t D k2 m2 t2 D2 = false from by unfold nodeB; apply decide_eq_false; rintro ⟨e0, e1, e2, e3⟩; first | exact h3 e3 | exact h3 (by omega))
          have hne : ¬ D.toList = D2.toList := fun h => h3 (by rw [ByteArray.toList_eq, ByteArray.toList_eq] at h; exact ByteArray.ext (Array.ext' h))
          subst h0 h1 h2
          clear h3
          go_enter Tryd.func30, Tryd.ntmps30
          go_wp2
          go_returns
          exact ⟨by rw [HB.out]; rfl, ((Upd.refl _ _).alloc _).alloc _⟩
      · have HB := Lib.hid (show nodeB k m t D k2 m2 t2 D2 = false from by unfold nodeB; apply decide_eq_false; rintro ⟨e0, e1, e2, e3⟩; first | exact h2 e2 | exact h2 (by omega))
        have hne : ((t : Int) == (t2 : Int)) = false := by simp; omega
        subst h0 h1
        have hne2 : (t == t2) = false := by simp [h2]
        clear h2
        go_enter Tryd.func30, Tryd.ntmps30
        go_wp2
        go_returns
        exact ⟨by rw [HB.out]; rfl, ((Upd.refl _ _).alloc _).alloc _⟩
    · have HB := Lib.hid (show nodeB k m t D k2 m2 t2 D2 = false from by unfold nodeB; apply decide_eq_false; rintro ⟨e0, e1, e2, e3⟩; first | exact h1 e1 | exact h1 (by omega))
      have hne : (m == m2) = false := by simp; omega
      subst h0
      clear h1
      go_enter Tryd.func30, Tryd.ntmps30
      go_wp2
      go_returns
      exact ⟨by rw [HB.out]; rfl, ((Upd.refl _ _).alloc _).alloc _⟩
  · have HB := Lib.hid (show nodeB k m t D k2 m2 t2 D2 = false from by unfold nodeB; apply decide_eq_false; rintro ⟨e0, e1, e2, e3⟩; first | exact h0 e0 | exact h0 (by omega))
    have hne : (k == k2) = false := by simp; omega
    clear h0
    go_enter Tryd.func30, Tryd.ntmps30
    go_wp2
    go_returns
    exact ⟨by rw [HB.out]; rfl, ((Upd.refl _ _).alloc _).alloc _⟩
end Go.Proofs.YtibmhadnfggmlaaDoor
