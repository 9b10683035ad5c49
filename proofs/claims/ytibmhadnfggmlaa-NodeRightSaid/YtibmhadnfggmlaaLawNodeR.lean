/- The law swinglelaw14.NodeRight: its walk. -/
import Derived.Test.YtibmhadnfggmlaaLives14
namespace Go.Proofs.Ytibmhadnfggmlaa
open Go.RowKit
set_option linter.unusedVariables false

set_option maxRecDepth 100000 in
set_option maxHeartbeats 12800000 in
theorem law_nodeRight (k m : Int) (t : Nat) (E : ByteArray) (k2 m2 : Int) (t2 : Nat) (E2 : ByteArray) (w : World) (ht : t < 4294967296) (ht2 : t2 < 4294967296) (hE : E.size ≤ 9223372036854775807) (hE2 : E2.size ≤ 9223372036854775807) :
    Calls Try.prog 5 #[nodeV k m t E, nodeV k2 m2 t2 E2] w fun e w' => e = .returned (.bool true) ∧ Upd [] w w' := by
  have HC1 := Lib.hid (fun w' => cut_any k m t E w' hE)
  have HC2 := Lib.hid (fun w' => cut_any k2 m2 t2 E2 w' hE2)
  obtain ⟨D, hD⟩ : ∃ D, D = E.extract 0 (min E.size 2000) := ⟨_, rfl⟩
  obtain ⟨D2, hD2⟩ : ∃ D2, D2 = E2.extract 0 (min E2.size 2000) := ⟨_, rfl⟩
  have hs : D.size ≤ 9223372036854775807 := by rw [hD, ByteArray.size_extract]; omega
  have hs2 : D2.size ≤ 9223372036854775807 := by rw [hD2, ByteArray.size_extract]; omega
  rw [← hD] at HC1
  rw [← hD2] at HC2
  clear hD hD2
  have HR1 := Lib.hid (fun w' => nodeRight_any k m t D w' ht hs)
  have HR2 := Lib.hid (fun w' => rnodeRight_any k m t D w' ht hs)
  have HP1 := Lib.hid (fun w' => print_any k m t D w' hs)
  have HP2 := Lib.hid (fun w' => rprint_any k m t D w' hs)
  have HP3 := Lib.hid (fun w' => rprint_any k2 m2 t2 D2 w' hs2)
  have HS := Lib.hid (fun w' => same_any k m t D k2 m2 t2 D2 w' hs hs2)
  have HW := Lib.hid (fun w' => whole_any k m t D k2 m2 t2 D2 w')
  have HL := Lib.hid (fun w' => lives14_any w')
  have HB1 := Lib.hid (show printB k m t D k2 m2 t2 D2 = decide (k = k2 ∧ m = m2 ∧ (t : Int) = (t2 : Int) ∧ (D.size : Int) = (D2.size : Int) ∧ ((if k = 1 then crcOf D else 0 : Nat) : Int) = ((if k2 = 1 then crcOf D2 else 0 : Nat) : Int)) from rfl)
  have HB2 := Lib.hid (show nodeB k m t D k2 m2 t2 D2 = decide (k = k2 ∧ m = m2 ∧ (t : Int) = (t2 : Int) ∧ D = D2) from rfl)
  unfold nodeV printV at HP1 HP2 HP3
  unfold nodeV at HC1 HC2 HR1 HR2 HS HW
  unfold nodeV
  generalize (if k = 1 then crcOf D else 0 : Nat) = c1 at *
  generalize (if k2 = 1 then crcOf D2 else 0 : Nat) = c2 at *
  generalize printB k m t D k2 m2 t2 D2 = B1 at *
  generalize nodeB k m t D k2 m2 t2 D2 = B2 at *
  generalize nodeErr k m t D = er at *
  go_enter Try.func5, Try.ntmps5
  go_upto_region 1 with fail
  have hA := (Blk.new w [.int .i64 k, .int .i64 m, .int .u32 (t : Nat), .string E] 49).alloc (.cells ([.int .i64 k2, .int .i64 m2, .int .u32 (t2 : Nat), .string E2]).toArray 49)
  have hC := Blk.new (w.alloc (.cells ([.int .i64 k, .int .i64 m, .int .u32 (t : Nat), .string E]).toArray 49)) [.int .i64 k2, .int .i64 m2, .int .u32 (t2 : Nat), .string E2] 49
  have hU : Upd [] w ((w.alloc (.cells ([.int .i64 k, .int .i64 m, .int .u32 (t : Nat), .string E]).toArray 49)).alloc (.cells ([.int .i64 k2, .int .i64 m2, .int .u32 (t2 : Nat), .string E2]).toArray 49)) := ((Upd.refl [] w).alloc _).alloc _
  rw [World.size_alloc] at hC
  change Code.wp _ _ _ _ ((w.alloc (.cells ([.int .i64 k, .int .i64 m, .int .u32 (t : Nat), .string E]).toArray 49)).alloc (.cells ([.int .i64 k2, .int .i64 m2, .int .u32 (t2 : Nat), .string E2]).toArray 49))
  generalize (w.alloc (.cells ([.int .i64 k, .int .i64 m, .int .u32 (t : Nat), .string E]).toArray 49)).alloc (.cells ([.int .i64 k2, .int .i64 m2, .int .u32 (t2 : Nat), .string E2]).toArray 49) = w1 at *
  obtain ⟨b, hb⟩ : ∃ b, w.heap.size = b := ⟨_, rfl⟩
  rw [hb] at hA hC ⊢
  have HW0 := Lib.hid (show w.heap.size ≤ b by omega)
  clear hb
  go_cut [] (fun wx => Blk wx b [.int .i64 k, .int .i64 m, .int .u32 (t : Nat), .string D] 49 ∧ Blk wx (b + 1) [.int .i64 k2, .int .i64 m2, .int .u32 (t2 : Nat), .string D2] 49 ∧ Upd [] w wx)
  case first =>
    have a0 := hA.cell 0 rfl
    have a1 := hA.cell 1 rfl
    have a2 := hA.cell 2 rfl
    have a3 := hA.cell 3 rfl
    have d0 := hC.cell 0 rfl
    have d1 := hC.cell 1 rfl
    have d2 := hC.cell 2 rfl
    have d3 := hC.cell 3 rfl
    have TA := Lib.hid (fun w' (hU' : Upd [] w1 w') => hA.upd hU' (by simp))
    have TC := Lib.hid (fun w' (hU' : Upd [] w1 w') => hC.upd hU' (by simp))
    have tok : Upd [] w1 w1.drew := (Upd.refl _ _).drew
    clear hA hC
    go_region_law (first
      | (go_simp; go_at_call 21; refine (HC1.out _).mono ?_; rintro e w2 ⟨rfl, hU2⟩; have hU12 := tok.then hU2; have a0 := (TA.out w2 hU12).cell 0 rfl; have a1 := (TA.out w2 hU12).cell 1 rfl; have a2 := (TA.out w2 hU12).cell 2 rfl; have a3 := (TA.out w2 hU12).cell 3 rfl; have d0 := (TC.out w2 hU12).cell 0 rfl; have d1 := (TC.out w2 hU12).cell 1 rfl; have d2 := (TC.out w2 hU12).cell 2 rfl; have d3 := (TC.out w2 hU12).cell 3 rfl; clear HC1)
      | (go_simp; go_at_call 21; refine (HC2.out _).mono ?_; rintro e w3 ⟨rfl, hU3⟩; have hU13 := hU12.then hU3; have a0 := (TA.out w3 hU13).cell 0 rfl; have a1 := (TA.out w3 hU13).cell 1 rfl; have a2 := (TA.out w3 hU13).cell 2 rfl; have a3 := (TA.out w3 hU13).cell 3 rfl; have d0 := (TC.out w3 hU13).cell 0 rfl; have d1 := (TC.out w3 hU13).cell 1 rfl; have d2 := (TC.out w3 hU13).cell 2 rfl; have d3 := (TC.out w3 hU13).cell 3 rfl; have fa0 := (TA.out w3 hU13).frz 0; have fa1 := (TA.out w3 hU13).frz 1; have fa2 := (TA.out w3 hU13).frz 2; have fa3 := (TA.out w3 hU13).frz 3; have fd0 := (TC.out w3 hU13).frz 0; have fd1 := (TC.out w3 hU13).frz 1; have fd2 := (TC.out w3 hU13).frz 2; have fd3 := (TC.out w3 hU13).frz 3))
    all_goals go_wp2
    all_goals go_meet
    all_goals exact ⟨((((((((TA.out w3 hU13).set 0 _).set 1 _).set 2 _).set 3 _).setFar _ (by simp)).setFar _ (by simp)).setFar _ (by simp)).setFar _ (by simp), ((((((((TC.out w3 hU13).setFar _ (by simp)).setFar _ (by simp)).setFar _ (by simp)).setFar _ (by simp)).set 0 _).set 1 _).set 2 _).set 3 _, ((((((((hU.then hU13).setCell (.inr (by have := HW0.out; simp; omega)) _).setCell (.inr (by have := HW0.out; simp; omega)) _).setCell (.inr (by have := HW0.out; simp; omega)) _).setCell (.inr (by have := HW0.out; simp; omega)) _).setCell (.inr (by have := HW0.out; simp; omega)) _).setCell (.inr (by have := HW0.out; simp; omega)) _).setCell (.inr (by have := HW0.out; simp; omega)) _).setCell (.inr (by have := HW0.out; simp; omega)) _⟩
  case rest =>
    obtain ⟨hA, hC, hU⟩ := hcut
    go_upto_region 2 with fail
    refine wp_region_held_drew (S := fun w' => Blk w' b [.int .i64 k, .int .i64 m, .int .u32 (t : Nat), .string D] 49 ∧ Blk w' (b + 1) [.int .i64 k2, .int .i64 m2, .int .u32 (t2 : Nat), .string D2] 49) (by kernel_rfl) ⟨hA, hC⟩ (fun hHeld => ?_)
    change wpAnyH _ _ _ _ _ 36 #[false, false, false, false, false, false, false, false, false, false, false, false, false, false, false, false, false, false, false, false, false, false, false, false, false, false, false, false, false, false, false, false, false, false, false, false] _ _
    refine heldTake (i := 0) (d := some 9) (v := ?v0_1) rfl rfl (by kernel_rfl) (by kernel_rfl) (by kernel_rfl) (fun _ _ _ h => h) (by rfl) ?hy0_1 (by assumption) ?r0_1
    case hy0_1 => (intro w hSw; have q0 := hSw.1.cell 0 rfl; have q1 := hSw.1.cell 1 rfl; have q2 := hSw.1.cell 2 rfl; have q3 := hSw.1.cell 3 rfl; go_simp; try with_reducible rfl)
    try simp only [Act.put, List.setIfInBounds_toArray, List.set_cons_zero, List.set_cons_succ]
    change wpAnyH _ _ _ _ _ 35 #[true, false, false, false, false, false, false, false, false, false, false, false, false, false, false, false, false, false, false, false, false, false, false, false, false, false, false, false, false, false, false, false, false, false, false, false] _ _
    refine heldTake (i := 2) (d := some 11) (v := ?v2_2) rfl rfl (by kernel_rfl) (by kernel_rfl) (by kernel_rfl) (fun _ _ _ h => h) (by rfl) ?hy2_2 (by assumption) ?r2_2
    case hy2_2 => (intro w hSw; have q0 := hSw.1.cell 0 rfl; have q1 := hSw.1.cell 1 rfl; have q2 := hSw.1.cell 2 rfl; have q3 := hSw.1.cell 3 rfl; go_simp; try with_reducible rfl)
    try simp only [Act.put, List.setIfInBounds_toArray, List.set_cons_zero, List.set_cons_succ]
    change wpAnyH _ _ _ _ _ 34 #[true, false, true, false, false, false, false, false, false, false, false, false, false, false, false, false, false, false, false, false, false, false, false, false, false, false, false, false, false, false, false, false, false, false, false, false] _ _
    refine wpAnyH_ready (rs := [1]) (by kernel_rfl) (by simp) ?_
    refine AllReadyH.cons rfl (fun K hK => ?_) AllReadyH.nil
    go_simp
    go_at_call 22
    refine (HR1.out _).mono ?_
    rintro e v0 ⟨rfl, hV0⟩
    have hS0 : Blk v0 b [.int .i64 k, .int .i64 m, .int .u32 (t : Nat), .string D] 49 ∧ Blk v0 (b + 1) [.int .i64 k2, .int .i64 m2, .int .u32 (t2 : Nat), .string D2] 49 := ⟨hHeld.1.upd hV0 (by simp), hHeld.2.upd hV0 (by simp)⟩
    go_wp2
    refine hK.out _ _ hS0 (fun hHeld => ?_)
    clear hK K
    try simp only [Act.put, List.setIfInBounds_toArray, List.set_cons_zero, List.set_cons_succ]
    change wpAnyH _ _ _ _ _ 33 #[true, true, true, false, false, false, false, false, false, false, false, false, false, false, false, false, false, false, false, false, false, false, false, false, false, false, false, false, false, false, false, false, false, false, false, false] _ _
    refine wpAnyH_ready (rs := [3]) (by kernel_rfl) (by simp) ?_
    refine AllReadyH.cons rfl (fun K hK => ?_) AllReadyH.nil
    go_simp
    go_at_call 23
    refine (HR2.out _).mono ?_
    rintro e v1 ⟨rfl, hV1⟩
    have hS1 : Blk v1 b [.int .i64 k, .int .i64 m, .int .u32 (t : Nat), .string D] 49 ∧ Blk v1 (b + 1) [.int .i64 k2, .int .i64 m2, .int .u32 (t2 : Nat), .string D2] 49 := ⟨hS0.1.upd hV1 (by simp), hS0.2.upd hV1 (by simp)⟩
    go_wp2
    refine hK.out _ _ hS1 (fun hHeld => ?_)
    clear hK K
    try simp only [Act.put, List.setIfInBounds_toArray, List.set_cons_zero, List.set_cons_succ]
    change wpAnyH _ _ _ _ _ 32 #[true, true, true, true, false, false, false, false, false, false, false, false, false, false, false, false, false, false, false, false, false, false, false, false, false, false, false, false, false, false, false, false, false, false, false, false] _ _
    refine heldTake (i := 4) (d := some 13) (v := ?v4_5) rfl rfl (by kernel_rfl) (by kernel_rfl) (by kernel_rfl) (fun _ _ _ h => h) (by rfl) ?hy4_5 (by assumption) ?r4_5
    case hy4_5 => (intro w hSw; (try dsimp only at hSw); go_simp; try with_reducible rfl)
    try simp only [Act.put, List.setIfInBounds_toArray, List.set_cons_zero, List.set_cons_succ]
    change wpAnyH _ _ _ _ _ 31 #[true, true, true, true, true, false, false, false, false, false, false, false, false, false, false, false, false, false, false, false, false, false, false, false, false, false, false, false, false, false, false, false, false, false, false, false] _ _
    refine heldTake (i := 5) (d := some 14) (v := ?v5_6) rfl rfl (by kernel_rfl) (by kernel_rfl) (by kernel_rfl) (fun _ _ _ h => h) (by rfl) ?hy5_6 (by assumption) ?r5_6
    case hy5_6 => (intro w hSw; (try dsimp only at hSw); go_simp; try with_reducible rfl)
    try simp only [Act.put, List.setIfInBounds_toArray, List.set_cons_zero, List.set_cons_succ]
    change wpAnyH _ _ _ _ _ 30 #[true, true, true, true, true, true, false, false, false, false, false, false, false, false, false, false, false, false, false, false, false, false, false, false, false, false, false, false, false, false, false, false, false, false, false, false] _ _
    refine heldTake (i := 6) (d := some 15) (v := ?v6_7) rfl rfl (by kernel_rfl) (by kernel_rfl) (by kernel_rfl) (fun _ _ _ h => h) (by rfl) ?hy6_7 (by assumption) ?r6_7
    case hy6_7 => (intro w hSw; have q0 := hSw.1.cell 0 rfl; have q1 := hSw.1.cell 1 rfl; have q2 := hSw.1.cell 2 rfl; have q3 := hSw.1.cell 3 rfl; go_simp; try with_reducible rfl)
    try simp only [Act.put, List.setIfInBounds_toArray, List.set_cons_zero, List.set_cons_succ]
    change wpAnyH _ _ _ _ _ 29 #[true, true, true, true, true, true, true, false, false, false, false, false, false, false, false, false, false, false, false, false, false, false, false, false, false, false, false, false, false, false, false, false, false, false, false, false] _ _
    refine heldTake (i := 8) (d := some 17) (v := ?v8_8) rfl rfl (by kernel_rfl) (by kernel_rfl) (by kernel_rfl) (fun _ _ _ h => h) (by rfl) ?hy8_8 (by assumption) ?r8_8
    case hy8_8 => (intro w hSw; have q0 := hSw.1.cell 0 rfl; have q1 := hSw.1.cell 1 rfl; have q2 := hSw.1.cell 2 rfl; have q3 := hSw.1.cell 3 rfl; go_simp; try with_reducible rfl)
    try simp only [Act.put, List.setIfInBounds_toArray, List.set_cons_zero, List.set_cons_succ]
    change wpAnyH _ _ _ _ _ 28 #[true, true, true, true, true, true, true, false, true, false, false, false, false, false, false, false, false, false, false, false, false, false, false, false, false, false, false, false, false, false, false, false, false, false, false, false] _ _
    refine wpAnyH_ready (rs := [7]) (by kernel_rfl) (by simp) ?_
    refine AllReadyH.cons rfl (fun K hK => ?_) AllReadyH.nil
    go_simp
    go_at_call 24
    refine (HP1.out _).mono ?_
    rintro e v2 ⟨rfl, hV2⟩
    have hS2 : Blk v2 b [.int .i64 k, .int .i64 m, .int .u32 (t : Nat), .string D] 49 ∧ Blk v2 (b + 1) [.int .i64 k2, .int .i64 m2, .int .u32 (t2 : Nat), .string D2] 49 := ⟨hS1.1.upd hV2 (by simp), hS1.2.upd hV2 (by simp)⟩
    go_wp2
    refine hK.out _ _ hS2 (fun hHeld => ?_)
    clear hK K
    try simp only [Act.put, List.setIfInBounds_toArray, List.set_cons_zero, List.set_cons_succ]
    change wpAnyH _ _ _ _ _ 27 #[true, true, true, true, true, true, true, true, true, false, false, false, false, false, false, false, false, false, false, false, false, false, false, false, false, false, false, false, false, false, false, false, false, false, false, false] _ _
    refine wpAnyH_ready (rs := [9]) (by kernel_rfl) (by simp) ?_
    refine AllReadyH.cons rfl (fun K hK => ?_) AllReadyH.nil
    go_simp
    go_at_call 25
    refine (HP2.out _).mono ?_
    rintro e v3 ⟨rfl, hV3⟩
    have hS3 : Blk v3 b [.int .i64 k, .int .i64 m, .int .u32 (t : Nat), .string D] 49 ∧ Blk v3 (b + 1) [.int .i64 k2, .int .i64 m2, .int .u32 (t2 : Nat), .string D2] 49 := ⟨hS2.1.upd hV3 (by simp), hS2.2.upd hV3 (by simp)⟩
    go_wp2
    refine hK.out _ _ hS3 (fun hHeld => ?_)
    clear hK K
    try simp only [Act.put, List.setIfInBounds_toArray, List.set_cons_zero, List.set_cons_succ]
    change wpAnyH _ _ _ _ _ 26 #[true, true, true, true, true, true, true, true, true, true, false, false, false, false, false, false, false, false, false, false, false, false, false, false, false, false, false, false, false, false, false, false, false, false, false, false] _ _
    refine heldTake (i := 10) (d := some 19) (v := ?v10_11) rfl rfl (by kernel_rfl) (by kernel_rfl) (by kernel_rfl) (fun _ _ _ h => h) (by rfl) ?hy10_11 (by assumption) ?r10_11
    case hy10_11 => (intro w hSw; (try dsimp only at hSw); go_simp; try with_reducible rfl)
    try simp only [Act.put, List.setIfInBounds_toArray, List.set_cons_zero, List.set_cons_succ]
    change wpAnyH _ _ _ _ _ 25 #[true, true, true, true, true, true, true, true, true, true, true, false, false, false, false, false, false, false, false, false, false, false, false, false, false, false, false, false, false, false, false, false, false, false, false, false] _ _
    refine heldTake (i := 11) (d := some 20) (v := ?v11_12) rfl rfl (by kernel_rfl) (by kernel_rfl) (by kernel_rfl) (fun _ _ _ h => h) (by rfl) ?hy11_12 (by assumption) ?r11_12
    case hy11_12 => (intro w hSw; (try dsimp only at hSw); go_simp; try with_reducible rfl)
    try simp only [Act.put, List.setIfInBounds_toArray, List.set_cons_zero, List.set_cons_succ]
    change wpAnyH _ _ _ _ _ 24 #[true, true, true, true, true, true, true, true, true, true, true, true, false, false, false, false, false, false, false, false, false, false, false, false, false, false, false, false, false, false, false, false, false, false, false, false] _ _
    refine heldTake (i := 12) (d := some 21) (v := ?v12_13) rfl rfl (by kernel_rfl) (by kernel_rfl) (by kernel_rfl) (fun _ _ _ h => h) (by rfl) ?hy12_13 (by assumption) ?r12_13
    case hy12_13 => (intro w hSw; (try dsimp only at hSw); go_simp; try with_reducible rfl)
    try simp only [Act.put, List.setIfInBounds_toArray, List.set_cons_zero, List.set_cons_succ]
    change wpAnyH _ _ _ _ _ 23 #[true, true, true, true, true, true, true, true, true, true, true, true, true, false, false, false, false, false, false, false, false, false, false, false, false, false, false, false, false, false, false, false, false, false, false, false] _ _
    refine heldTake (i := 13) (d := some 22) (v := ?v13_14) rfl rfl (by kernel_rfl) (by kernel_rfl) (by kernel_rfl) (fun _ _ _ h => h) (by rfl) ?hy13_14 (by assumption) ?r13_14
    case hy13_14 => (intro w hSw; have q0 := hSw.1.cell 0 rfl; have q1 := hSw.1.cell 1 rfl; have q2 := hSw.1.cell 2 rfl; have q3 := hSw.1.cell 3 rfl; go_simp; try with_reducible rfl)
    try simp only [Act.put, List.setIfInBounds_toArray, List.set_cons_zero, List.set_cons_succ]
    change wpAnyH _ _ _ _ _ 22 #[true, true, true, true, true, true, true, true, true, true, true, true, true, true, false, false, false, false, false, false, false, false, false, false, false, false, false, false, false, false, false, false, false, false, false, false] _ _
    refine heldTake (i := 14) (d := some 23) (v := ?v14_15) rfl rfl (by kernel_rfl) (by kernel_rfl) (by kernel_rfl) (fun _ _ _ h => h) (by rfl) ?hy14_15 (by assumption) ?r14_15
    case hy14_15 => (intro w hSw; have q0 := hSw.2.cell 0 rfl; have q1 := hSw.2.cell 1 rfl; have q2 := hSw.2.cell 2 rfl; have q3 := hSw.2.cell 3 rfl; go_simp; try with_reducible rfl)
    try simp only [Act.put, List.setIfInBounds_toArray, List.set_cons_zero, List.set_cons_succ]
    change wpAnyH _ _ _ _ _ 21 #[true, true, true, true, true, true, true, true, true, true, true, true, true, true, true, false, false, false, false, false, false, false, false, false, false, false, false, false, false, false, false, false, false, false, false, false] _ _
    refine heldTake (i := 16) (d := some 25) (v := ?v16_16) rfl rfl (by kernel_rfl) (by kernel_rfl) (by kernel_rfl) (fun _ _ _ h => h) (by rfl) ?hy16_16 (by assumption) ?r16_16
    case hy16_16 => (intro w hSw; have q0 := hSw.1.cell 0 rfl; have q1 := hSw.1.cell 1 rfl; have q2 := hSw.1.cell 2 rfl; have q3 := hSw.1.cell 3 rfl; go_simp; try with_reducible rfl)
    try simp only [Act.put, List.setIfInBounds_toArray, List.set_cons_zero, List.set_cons_succ]
    change wpAnyH _ _ _ _ _ 20 #[true, true, true, true, true, true, true, true, true, true, true, true, true, true, true, false, true, false, false, false, false, false, false, false, false, false, false, false, false, false, false, false, false, false, false, false] _ _
    refine heldTake (i := 18) (d := some 27) (v := ?v18_17) rfl rfl (by kernel_rfl) (by kernel_rfl) (by kernel_rfl) (fun _ _ _ h => h) (by rfl) ?hy18_17 (by assumption) ?r18_17
    case hy18_17 => (intro w hSw; have q0 := hSw.2.cell 0 rfl; have q1 := hSw.2.cell 1 rfl; have q2 := hSw.2.cell 2 rfl; have q3 := hSw.2.cell 3 rfl; go_simp; try with_reducible rfl)
    try simp only [Act.put, List.setIfInBounds_toArray, List.set_cons_zero, List.set_cons_succ]
    change wpAnyH _ _ _ _ _ 19 #[true, true, true, true, true, true, true, true, true, true, true, true, true, true, true, false, true, false, true, false, false, false, false, false, false, false, false, false, false, false, false, false, false, false, false, false] _ _
    refine wpAnyH_ready (rs := [15]) (by kernel_rfl) (by simp) ?_
    refine AllReadyH.cons rfl (fun K hK => ?_) AllReadyH.nil
    go_simp
    go_at_call 26
    refine (HS.out _).mono ?_
    rintro e v4 ⟨rfl, hV4⟩
    have hS4 : Blk v4 b [.int .i64 k, .int .i64 m, .int .u32 (t : Nat), .string D] 49 ∧ Blk v4 (b + 1) [.int .i64 k2, .int .i64 m2, .int .u32 (t2 : Nat), .string D2] 49 := ⟨hS3.1.upd hV4 (by simp), hS3.2.upd hV4 (by simp)⟩
    go_wp2
    refine hK.out _ _ hS4 (fun hHeld => ?_)
    clear hK K
    try simp only [Act.put, List.setIfInBounds_toArray, List.set_cons_zero, List.set_cons_succ]
    change wpAnyH _ _ _ _ _ 18 #[true, true, true, true, true, true, true, true, true, true, true, true, true, true, true, true, true, false, true, false, false, false, false, false, false, false, false, false, false, false, false, false, false, false, false, false] _ _
    refine wpAnyH_ready (rs := [17]) (by kernel_rfl) (by simp) ?_
    refine AllReadyH.cons rfl (fun K hK => ?_) AllReadyH.nil
    go_simp
    go_at_call 25
    refine (HP2.out _).mono ?_
    rintro e v5 ⟨rfl, hV5⟩
    have hS5 : Blk v5 b [.int .i64 k, .int .i64 m, .int .u32 (t : Nat), .string D] 49 ∧ Blk v5 (b + 1) [.int .i64 k2, .int .i64 m2, .int .u32 (t2 : Nat), .string D2] 49 := ⟨hS4.1.upd hV5 (by simp), hS4.2.upd hV5 (by simp)⟩
    go_wp2
    refine hK.out _ _ hS5 (fun hHeld => ?_)
    clear hK K
    try simp only [Act.put, List.setIfInBounds_toArray, List.set_cons_zero, List.set_cons_succ]
    change wpAnyH _ _ _ _ _ 17 #[true, true, true, true, true, true, true, true, true, true, true, true, true, true, true, true, true, true, true, false, false, false, false, false, false, false, false, false, false, false, false, false, false, false, false, false] _ _
    refine wpAnyH_ready (rs := [19]) (by kernel_rfl) (by simp) ?_
    refine AllReadyH.cons rfl (fun K hK => ?_) AllReadyH.nil
    go_simp
    go_at_call 25
    refine (HP3.out _).mono ?_
    rintro e v6 ⟨rfl, hV6⟩
    have hS6 : Blk v6 b [.int .i64 k, .int .i64 m, .int .u32 (t : Nat), .string D] 49 ∧ Blk v6 (b + 1) [.int .i64 k2, .int .i64 m2, .int .u32 (t2 : Nat), .string D2] 49 := ⟨hS5.1.upd hV6 (by simp), hS5.2.upd hV6 (by simp)⟩
    go_wp2
    refine hK.out _ _ hS6 (fun hHeld => ?_)
    clear hK K
    try simp only [Act.put, List.setIfInBounds_toArray, List.set_cons_zero, List.set_cons_succ]
    change wpAnyH _ _ _ _ _ 16 #[true, true, true, true, true, true, true, true, true, true, true, true, true, true, true, true, true, true, true, true, false, false, false, false, false, false, false, false, false, false, false, false, false, false, false, false] _ _
    refine heldTake (i := 20) (d := some 29) (v := (.bool B1)) rfl rfl (by kernel_rfl) (by kernel_rfl) (by kernel_rfl) (fun _ _ _ h => h) (by rfl) ?hy20_21 (by assumption) ?r20_21
    case hy20_21 => (intro w hSw; rw [HB1.out]; exact eqlPrint (by rfl) k m (t : Int) (D.size : Int) (c1 : Int) k2 m2 (t2 : Int) (D2.size : Int) (c2 : Int) (by rfl) (by rfl) w)
    try simp only [Act.put, List.setIfInBounds_toArray, List.set_cons_zero, List.set_cons_succ]
    change wpAnyH _ _ _ _ _ 15 #[true, true, true, true, true, true, true, true, true, true, true, true, true, true, true, true, true, true, true, true, true, false, false, false, false, false, false, false, false, false, false, false, false, false, false, false] _ _
    refine heldTake (i := 21) (d := some 30) (v := ?v21_22) rfl rfl (by kernel_rfl) (by kernel_rfl) (by kernel_rfl) (fun _ _ _ h => h) (by rfl) ?hy21_22 (by assumption) ?r21_22
    case hy21_22 => (intro w hSw; (try dsimp only at hSw); go_simp; try with_reducible rfl)
    try simp only [Act.put, List.setIfInBounds_toArray, List.set_cons_zero, List.set_cons_succ]
    change wpAnyH _ _ _ _ _ 14 #[true, true, true, true, true, true, true, true, true, true, true, true, true, true, true, true, true, true, true, true, true, true, false, false, false, false, false, false, false, false, false, false, false, false, false, false] _ _
    refine heldTake (i := 22) (d := some 31) (v := ?v22_23) rfl rfl (by kernel_rfl) (by kernel_rfl) (by kernel_rfl) (fun _ _ _ h => h) (by rfl) ?hy22_23 (by assumption) ?r22_23
    case hy22_23 => (intro w hSw; (try dsimp only at hSw); go_simp; try with_reducible rfl)
    try simp only [Act.put, List.setIfInBounds_toArray, List.set_cons_zero, List.set_cons_succ]
    change wpAnyH _ _ _ _ _ 13 #[true, true, true, true, true, true, true, true, true, true, true, true, true, true, true, true, true, true, true, true, true, true, true, false, false, false, false, false, false, false, false, false, false, false, false, false] _ _
    refine heldTake (i := 23) (d := some 32) (v := ?v23_24) rfl rfl (by kernel_rfl) (by kernel_rfl) (by kernel_rfl) (fun _ _ _ h => h) (by rfl) ?hy23_24 (by assumption) ?r23_24
    case hy23_24 => (intro w hSw; (try dsimp only at hSw); go_simp; try with_reducible rfl)
    try simp only [Act.put, List.setIfInBounds_toArray, List.set_cons_zero, List.set_cons_succ]
    change wpAnyH _ _ _ _ _ 12 #[true, true, true, true, true, true, true, true, true, true, true, true, true, true, true, true, true, true, true, true, true, true, true, true, false, false, false, false, false, false, false, false, false, false, false, false] _ _
    refine heldTake (i := 24) (d := some 33) (v := ?v24_25) rfl rfl (by kernel_rfl) (by kernel_rfl) (by kernel_rfl) (fun _ _ _ h => h) (by rfl) ?hy24_25 (by assumption) ?r24_25
    case hy24_25 => (intro w hSw; have q0 := hSw.1.cell 0 rfl; have q1 := hSw.1.cell 1 rfl; have q2 := hSw.1.cell 2 rfl; have q3 := hSw.1.cell 3 rfl; go_simp; try with_reducible rfl)
    try simp only [Act.put, List.setIfInBounds_toArray, List.set_cons_zero, List.set_cons_succ]
    change wpAnyH _ _ _ _ _ 11 #[true, true, true, true, true, true, true, true, true, true, true, true, true, true, true, true, true, true, true, true, true, true, true, true, true, false, false, false, false, false, false, false, false, false, false, false] _ _
    refine heldTake (i := 25) (d := some 34) (v := ?v25_26) rfl rfl (by kernel_rfl) (by kernel_rfl) (by kernel_rfl) (fun _ _ _ h => h) (by rfl) ?hy25_26 (by assumption) ?r25_26
    case hy25_26 => (intro w hSw; have q0 := hSw.2.cell 0 rfl; have q1 := hSw.2.cell 1 rfl; have q2 := hSw.2.cell 2 rfl; have q3 := hSw.2.cell 3 rfl; go_simp; try with_reducible rfl)
    try simp only [Act.put, List.setIfInBounds_toArray, List.set_cons_zero, List.set_cons_succ]
    change wpAnyH _ _ _ _ _ 10 #[true, true, true, true, true, true, true, true, true, true, true, true, true, true, true, true, true, true, true, true, true, true, true, true, true, true, false, false, false, false, false, false, false, false, false, false] _ _
    refine heldTake (i := 27) (d := some 36) (v := ?v27_27) rfl rfl (by kernel_rfl) (by kernel_rfl) (by kernel_rfl) (fun _ _ _ h => h) (by rfl) ?hy27_27 (by assumption) ?r27_27
    case hy27_27 => (intro w hSw; have q0 := hSw.1.cell 0 rfl; have q1 := hSw.1.cell 1 rfl; have q2 := hSw.1.cell 2 rfl; have q3 := hSw.1.cell 3 rfl; go_simp; try with_reducible rfl)
    try simp only [Act.put, List.setIfInBounds_toArray, List.set_cons_zero, List.set_cons_succ]
    change wpAnyH _ _ _ _ _ 9 #[true, true, true, true, true, true, true, true, true, true, true, true, true, true, true, true, true, true, true, true, true, true, true, true, true, true, false, true, false, false, false, false, false, false, false, false] _ _
    refine heldTake (i := 28) (d := some 37) (v := ?v28_28) rfl rfl (by kernel_rfl) (by kernel_rfl) (by kernel_rfl) (fun _ _ _ h => h) (by rfl) ?hy28_28 (by assumption) ?r28_28
    case hy28_28 => (intro w hSw; have q0 := hSw.2.cell 0 rfl; have q1 := hSw.2.cell 1 rfl; have q2 := hSw.2.cell 2 rfl; have q3 := hSw.2.cell 3 rfl; go_simp; try with_reducible rfl)
    try simp only [Act.put, List.setIfInBounds_toArray, List.set_cons_zero, List.set_cons_succ]
    change wpAnyH _ _ _ _ _ 8 #[true, true, true, true, true, true, true, true, true, true, true, true, true, true, true, true, true, true, true, true, true, true, true, true, true, true, false, true, true, false, false, false, false, false, false, false] _ _
    refine heldTake (i := 29) (d := some 38) (v := (.bool B2)) rfl rfl (by kernel_rfl) (by kernel_rfl) (by kernel_rfl) (fun _ _ _ h => h) (by rfl) ?hy29_29 (by assumption) ?r29_29
    case hy29_29 => (intro w hSw; rw [HB2.out]; exact eqlNode (by rfl) k m (t : Int) k2 m2 (t2 : Int) D D2 (by rfl) (by rfl) w)
    try simp only [Act.put, List.setIfInBounds_toArray, List.set_cons_zero, List.set_cons_succ]
    change wpAnyH _ _ _ _ _ 7 #[true, true, true, true, true, true, true, true, true, true, true, true, true, true, true, true, true, true, true, true, true, true, true, true, true, true, false, true, true, true, false, false, false, false, false, false] _ _
    refine wpAnyH_ready (rs := [26]) (by kernel_rfl) (by simp) ?_
    refine AllReadyH.cons rfl (fun K hK => ?_) AllReadyH.nil
    go_simp
    go_at_call 27
    refine (HW.out _).mono ?_
    rintro e v7 ⟨rfl, hV7⟩
    have hS7 : Blk v7 b [.int .i64 k, .int .i64 m, .int .u32 (t : Nat), .string D] 49 ∧ Blk v7 (b + 1) [.int .i64 k2, .int .i64 m2, .int .u32 (t2 : Nat), .string D2] 49 := ⟨hS6.1.upd hV7 (by simp), hS6.2.upd hV7 (by simp)⟩
    go_wp2
    refine hK.out _ _ hS7 (fun hHeld => ?_)
    clear hK K
    try simp only [Act.put, List.setIfInBounds_toArray, List.set_cons_zero, List.set_cons_succ]
    change wpAnyH _ _ _ _ _ 6 #[true, true, true, true, true, true, true, true, true, true, true, true, true, true, true, true, true, true, true, true, true, true, true, true, true, true, true, true, true, true, false, false, false, false, false, false] _ _
    refine heldTake (i := 30) (d := some 39) (v := ?v30_31) rfl rfl (by kernel_rfl) (by kernel_rfl) (by kernel_rfl) (fun _ _ _ h => h) (by rfl) ?hy30_31 (by assumption) ?r30_31
    case hy30_31 => (intro w hSw; (try dsimp only at hSw); go_simp; try with_reducible rfl)
    try simp only [Act.put, List.setIfInBounds_toArray, List.set_cons_zero, List.set_cons_succ]
    change wpAnyH _ _ _ _ _ 5 #[true, true, true, true, true, true, true, true, true, true, true, true, true, true, true, true, true, true, true, true, true, true, true, true, true, true, true, true, true, true, true, false, false, false, false, false] _ _
    refine heldTake (i := 31) (d := some 40) (v := ?v31_32) rfl rfl (by kernel_rfl) (by kernel_rfl) (by kernel_rfl) (fun _ _ _ h => h) (by rfl) ?hy31_32 (by assumption) ?r31_32
    case hy31_32 => (intro w hSw; (try dsimp only at hSw); go_simp; try with_reducible rfl)
    try simp only [Act.put, List.setIfInBounds_toArray, List.set_cons_zero, List.set_cons_succ]
    change wpAnyH _ _ _ _ _ 4 #[true, true, true, true, true, true, true, true, true, true, true, true, true, true, true, true, true, true, true, true, true, true, true, true, true, true, true, true, true, true, true, true, false, false, false, false] _ _
    refine heldTake (i := 32) (d := some 41) (v := ?v32_33) rfl rfl (by kernel_rfl) (by kernel_rfl) (by kernel_rfl) (fun _ _ _ h => h) (by rfl) ?hy32_33 (by assumption) ?r32_33
    case hy32_33 => (intro w hSw; (try dsimp only at hSw); go_simp; try with_reducible rfl)
    try simp only [Act.put, List.setIfInBounds_toArray, List.set_cons_zero, List.set_cons_succ]
    change wpAnyH _ _ _ _ _ 3 #[true, true, true, true, true, true, true, true, true, true, true, true, true, true, true, true, true, true, true, true, true, true, true, true, true, true, true, true, true, true, true, true, true, false, false, false] _ _
    refine wpAnyH_ready (rs := [33]) (by kernel_rfl) (by simp) ?_
    refine AllReadyH.cons rfl (fun K hK => ?_) AllReadyH.nil
    go_simp
    go_at_call 28
    refine (HL.out _).mono ?_
    rintro e v8 ⟨rfl, hV8⟩
    have hS8 : Blk v8 b [.int .i64 k, .int .i64 m, .int .u32 (t : Nat), .string D] 49 ∧ Blk v8 (b + 1) [.int .i64 k2, .int .i64 m2, .int .u32 (t2 : Nat), .string D2] 49 := ⟨hS7.1.upd hV8 (by simp), hS7.2.upd hV8 (by simp)⟩
    go_wp2
    refine hK.out _ _ hS8 (fun hHeld => ?_)
    clear hK K
    try simp only [Act.put, List.setIfInBounds_toArray, List.set_cons_zero, List.set_cons_succ]
    change wpAnyH _ _ _ _ _ 2 #[true, true, true, true, true, true, true, true, true, true, true, true, true, true, true, true, true, true, true, true, true, true, true, true, true, true, true, true, true, true, true, true, true, true, false, false] _ _
    refine heldTake (i := 34) (d := some 43) (v := ?v34_35) rfl rfl (by kernel_rfl) (by kernel_rfl) (by kernel_rfl) (fun _ _ _ h => h) (by rfl) ?hy34_35 (by assumption) ?r34_35
    case hy34_35 => (intro w hSw; (try dsimp only at hSw); go_simp; try with_reducible rfl)
    try simp only [Act.put, List.setIfInBounds_toArray, List.set_cons_zero, List.set_cons_succ]
    change wpAnyH _ _ _ _ _ 1 #[true, true, true, true, true, true, true, true, true, true, true, true, true, true, true, true, true, true, true, true, true, true, true, true, true, true, true, true, true, true, true, true, true, true, true, false] _ _
    refine heldTake (i := 35) (d := some 4) (v := ?v35_36) rfl rfl (by kernel_rfl) (by kernel_rfl) (by kernel_rfl) (fun _ _ _ h => h) (by rfl) ?hy35_36 (by assumption) ?r35_36
    case hy35_36 => (intro w hSw; (try dsimp only at hSw); go_simp; try with_reducible rfl)
    try simp only [Act.put, List.setIfInBounds_toArray, List.set_cons_zero, List.set_cons_succ]
    change wpAnyH _ _ _ _ _ 0 #[true, true, true, true, true, true, true, true, true, true, true, true, true, true, true, true, true, true, true, true, true, true, true, true, true, true, true, true, true, true, true, true, true, true, true, true] _ _
    refine wpAnyH_done (by kernel_rfl) ?_ 0
    go_wp2
    go_returns
    exact ⟨rfl, hU.drew.then (((((((((hV0.then hV1).then hV2).then hV3).then hV4).then hV5).then hV6).then hV7).then hV8))⟩
end Go.Proofs.Ytibmhadnfggmlaa
