/- Package dos: Parse: its walk. -/
import Derived.Test.YtigjingielnaoaaGreatDoorQAI
import Derived.Test.YtigjingielnaoaaGreatDoorQAD
namespace Go.Proofs.YtigjingielnaoaaGreatDoor
set_option linter.unusedVariables false
set_option linter.unusedSimpArgs false
set_option linter.unusedSectionVars false
open Go.RowKit
set_option linter.unusedVariables false
set_option linter.unusedSimpArgs false

def partAt (l : List Nat) (a b : Nat) : Int := numD ((l.drop a).take (b - a))
def rightT (l : List Nat) : Bool := rightG (partAt l 0 4) (partAt l 5 7) (partAt l 8 10) (partAt l 11 13) (partAt l 14 16) (partAt l 17 19)
def timeT (l : List Nat) : Nat := ofN (partAt l 0 4).toNat (partAt l 5 7).toNat (partAt l 8 10).toNat (partAt l 11 13).toNat (partAt l 14 16).toNat (partAt l 17 19).toNat
/-- The time of a text. -/
def dosParseP (l : List Nat) : Nat × Bool := if l.length ≠ 19 then (0, false) else if rightT l = false then (0, false) else if dosTextP (timeT l) = l then (timeT l, true) else (0, false)
def dosParseV (l : List Nat) : Value := .tuple #[.int .u32 ((dosParseP l).1 : Nat), .bool (dosParseP l).2]
theorem timeT_lt {l : List Nat} (h : rightT l = true) : timeT l < 4294967296 := by
  unfold rightT at h
  obtain ⟨yn, mn, dn, hn, ni, sn, e1, e2, e3, e4, e5, e6, c1, c2, c3, c4, c5, c6, c7⟩ := rightG_nat h
  unfold timeT
  rw [e1, e2, e3, e4, e5, e6]
  simp only [Int.toNat_natCast]
  unfold ofN
  omega
theorem clockP_lt (y mo d h mi s : Nat) : ∀ x ∈ clockP y mo d h mi s, x < 256 := by
  intro x hx
  unfold clockP at hx
  simp only [List.mem_append, List.mem_singleton] at hx
  rcases hx with (((((((((h | h) | h) | h) | h) | h) | h) | h) | h) | h) | h
  all_goals first
    | exact digP_lt _ _ x h
    | omega
theorem dosTextP_lt (t : Nat) : ∀ x ∈ dosTextP t, x < 256 := by
  unfold dosTextP
  split
  · exact clockP_lt _ _ _ _ _ _
  · intro x hx; cases hx
theorem strOf_eqS (l : List Nat) (S : ByteArray) (hl : ∀ x ∈ l, x < 256) : ((strOf l).toList == S.toList) = decide (l = bytesOf S) := by
  rw [Bool.eq_iff_iff, beq_iff_eq, decide_eq_true_eq]
  refine ⟨fun h => ?_, fun h => by rw [h, strOf_bytesOf]⟩
  rw [ByteArray.toList_eq, ByteArray.toList_eq] at h
  have : strOf l = S := ByteArray.ext (Array.ext' h)
  rw [← this, bytesOf_strOf l hl]
set_option maxRecDepth 100000 in
set_option maxHeartbeats 6400000 in
theorem dosParse_any (S : ByteArray) (w : World) (hs : S.size ≤ 1000000) : Calls Tryz.prog 99 #[.string S] w fun e w' => e = .returned (dosParseV (bytesOf S)) ∧ Upd [] w w' := by
  have hbl := length_bytesOf S
  have HB0 := Lib.hid (Blk.new w [.string S] 9)
  have HU0 := Lib.hid ((Upd.refl [] w).alloc (.cells #[.string S] 9))
  by_cases h19 : S.size = 19
  rotate_left
  · have HV : Hid (dosParseV (bytesOf S) = .tuple #[.int .u32 0, .bool false]) := Lib.hid (by unfold dosParseV dosParseP; rw [if_pos (by omega)]; rfl)
    have t1 : ((S.size : Int) != 19) = true := by rw [bne_iff_ne]; omega
    go_enter Tryz.func99, Tryz.ntmps99
    go_wp2
    go_ret2
    exact ⟨by rw [HV.out]; rfl, HU0.out⟩
  · have t1 : ((S.size : Int) != 19) = false := by rw [bne_eq_false_iff_eq]; omega
    have HV : Hid (dosParseV (bytesOf S) = if rightT (bytesOf S) = false then .tuple #[.int .u32 0, .bool false] else if dosTextP (timeT (bytesOf S)) = bytesOf S then .tuple #[.int .u32 (timeT (bytesOf S) : Nat), .bool true] else .tuple #[.int .u32 0, .bool false]) := Lib.hid (by
      unfold dosParseV dosParseP
      rw [if_neg (by omega)]
      by_cases h1 : rightT (bytesOf S) = false
      · rw [if_pos h1, if_pos h1]; rfl
      · rw [if_neg h1, if_neg h1]
        by_cases h2 : dosTextP (timeT (bytesOf S)) = bytesOf S
        · rw [if_pos h2, if_pos h2]
        · rw [if_neg h2, if_neg h2]; rfl)
    have HP0 := Lib.hid (fun (w9 : World) (g : Nat) hg => parse1_any S 0 4 g w9 hg (by omega) (by omega) (by omega))
    have HP1 := Lib.hid (fun (w9 : World) (g : Nat) hg => parse1_any S 5 7 g w9 hg (by omega) (by omega) (by omega))
    have HP2 := Lib.hid (fun (w9 : World) (g : Nat) hg => parse1_any S 8 10 g w9 hg (by omega) (by omega) (by omega))
    have HP3 := Lib.hid (fun (w9 : World) (g : Nat) hg => parse1_any S 11 13 g w9 hg (by omega) (by omega) (by omega))
    have HP4 := Lib.hid (fun (w9 : World) (g : Nat) hg => parse1_any S 14 16 g w9 hg (by omega) (by omega) (by omega))
    have HP5 := Lib.hid (fun (w9 : World) (g : Nat) hg => parse1_any S 17 19 g w9 hg (by omega) (by omega) (by omega))
    have HOF := Lib.hid (fun w => dosOf_any (partAt (bytesOf S) 0 4) (partAt (bytesOf S) 5 7) (partAt (bytesOf S) 8 10) (partAt (bytesOf S) 11 13) (partAt (bytesOf S) 14 16) (partAt (bytesOf S) 17 19) w)
    have HO1 : Hid (ofV (partAt (bytesOf S) 0 4) (partAt (bytesOf S) 5 7) (partAt (bytesOf S) 8 10) (partAt (bytesOf S) 11 13) (partAt (bytesOf S) 14 16) (partAt (bytesOf S) 17 19) = if rightT (bytesOf S) = true then .tuple #[.int .u32 (timeT (bytesOf S) : Nat), .bool true] else .tuple #[.int .u32 0, .bool false]) := Lib.hid rfl
    rw [HO1.out] at HOF
    have HTX := Lib.hid (fun w h => dosText_any (timeT (bytesOf S)) w (timeT_lt h))
    have HQ := Lib.hid (strOf_eqS (dosTextP (timeT (bytesOf S))) S (dosTextP_lt _))
    have HE0 : Hid (numD (((bytesOf S).drop 0).take (4 - 0)) = partAt (bytesOf S) 0 4) := Lib.hid rfl
    rw [HE0.out] at HP0
    clear HE0
    have HE1 : Hid (numD (((bytesOf S).drop 5).take (7 - 5)) = partAt (bytesOf S) 5 7) := Lib.hid rfl
    rw [HE1.out] at HP1
    clear HE1
    have HE2 : Hid (numD (((bytesOf S).drop 8).take (10 - 8)) = partAt (bytesOf S) 8 10) := Lib.hid rfl
    rw [HE2.out] at HP2
    clear HE2
    have HE3 : Hid (numD (((bytesOf S).drop 11).take (13 - 11)) = partAt (bytesOf S) 11 13) := Lib.hid rfl
    rw [HE3.out] at HP3
    clear HE3
    have HE4 : Hid (numD (((bytesOf S).drop 14).take (16 - 14)) = partAt (bytesOf S) 14 16) := Lib.hid rfl
    rw [HE4.out] at HP4
    clear HE4
    have HE5 : Hid (numD (((bytesOf S).drop 17).take (19 - 17)) = partAt (bytesOf S) 17 19) := Lib.hid rfl
    rw [HE5.out] at HP5
    clear HE5
    generalize partAt (bytesOf S) 0 4 = p0 at *
    generalize partAt (bytesOf S) 5 7 = p1 at *
    generalize partAt (bytesOf S) 8 10 = p2 at *
    generalize partAt (bytesOf S) 11 13 = p3 at *
    generalize partAt (bytesOf S) 14 16 = p4 at *
    generalize partAt (bytesOf S) 17 19 = p5 at *
    generalize timeT (bytesOf S) = tt at *
    generalize dosTextP tt = tx at *
    generalize rightT (bytesOf S) = rb at *
    clear HO1
    go_enter Tryz.func99, Tryz.ntmps99
    go_wp2_with fail
    generalize w.heap.size = q0 at *
    refine (HP0.out _ q0 (HB0.out.cell 0 rfl)).mono ?_
    rintro e w1 ⟨rfl, hu1⟩
    have HB1 := Lib.hid (HB0.out.upd hu1 (by simp))
    have HU1 := Lib.hid (HU0.out.then hu1)
    clear HB0 HU0 hu1
    go_wp2_with fail
    refine (HP1.out _ q0 (HB1.out.cell 0 rfl)).mono ?_
    rintro e w2 ⟨rfl, hu2⟩
    have HB2 := Lib.hid (HB1.out.upd hu2 (by simp))
    have HU2 := Lib.hid (HU1.out.then hu2)
    clear HB1 HU1 hu2
    go_wp2_with fail
    refine (HP2.out _ q0 (HB2.out.cell 0 rfl)).mono ?_
    rintro e w3 ⟨rfl, hu3⟩
    have HB3 := Lib.hid (HB2.out.upd hu3 (by simp))
    have HU3 := Lib.hid (HU2.out.then hu3)
    clear HB2 HU2 hu3
    go_wp2_with fail
    refine (HP3.out _ q0 (HB3.out.cell 0 rfl)).mono ?_
    rintro e w4 ⟨rfl, hu4⟩
    have HB4 := Lib.hid (HB3.out.upd hu4 (by simp))
    have HU4 := Lib.hid (HU3.out.then hu4)
    clear HB3 HU3 hu4
    go_wp2_with fail
    refine (HP4.out _ q0 (HB4.out.cell 0 rfl)).mono ?_
    rintro e w5 ⟨rfl, hu5⟩
    have HB5 := Lib.hid (HB4.out.upd hu5 (by simp))
    have HU5 := Lib.hid (HU4.out.then hu5)
    clear HB4 HU4 hu5
    go_wp2_with fail
    refine (HP5.out _ q0 (HB5.out.cell 0 rfl)).mono ?_
    rintro e w6 ⟨rfl, hu6⟩
    have HB6 := Lib.hid (HB5.out.upd hu6 (by simp))
    have HU6 := Lib.hid (HU5.out.then hu6)
    clear HB5 HU5 hu6
    go_wp2_with fail
    refine (HOF.out _).mono ?_
    rintro e w7 ⟨rfl, hu7⟩
    have HB7 := Lib.hid (HB6.out.upd hu7 (by simp))
    have HU7 := Lib.hid (HU6.out.then hu7)
    clear HB6 HU6 hu7
    cases rb with
    | false =>
      rw [if_neg (by simp)]
      rw [if_pos rfl] at HV
      go_wp2_with fail
      refine wp_region_held_drew (S := fun w' => Blk w' q0 [.string S] 9 ∧ Upd [] w w') (by kernel_rfl) ⟨HB7.out, HU7.out.drew⟩ (fun hHeld => ?_)
      change wpAnyH _ _ _ _ _ 8 #[false, false, false, false, false, false, false, false] _ _
      refine heldTake (i := 0) (d := some 28) (v := ?v0_1) rfl rfl (by kernel_rfl) (by kernel_rfl) (by kernel_rfl) (fun _ _ _ h => h) (by rfl) ?hy0_1 (by assumption) ?r0_1
      case hy0_1 => (intro w hSw; (try dsimp only at hSw); go_simp; try with_reducible rfl)
      try simp only [Act.put, List.setIfInBounds_toArray, List.set_cons_zero, List.set_cons_succ]
      change wpAnyH _ _ _ _ _ 7 #[true, false, false, false, false, false, false, false] _ _
      refine heldTake (i := 1) (d := some 29) (v := ?v1_2) rfl rfl (by kernel_rfl) (by kernel_rfl) (by kernel_rfl) (fun _ _ _ h => h) (by rfl) ?hy1_2 (by assumption) ?r1_2
      case hy1_2 => (intro w hSw; (try dsimp only at hSw); go_simp; try with_reducible rfl)
      try simp only [Act.put, List.setIfInBounds_toArray, List.set_cons_zero, List.set_cons_succ]
      change wpAnyH _ _ _ _ _ 6 #[true, true, false, false, false, false, false, false] _ _
      refine heldTake (i := 2) (d := some 30) (v := ?v2_3) rfl rfl (by kernel_rfl) (by kernel_rfl) (by kernel_rfl) (fun _ _ _ h => h) (by rfl) ?hy2_3 (by assumption) ?r2_3
      case hy2_3 => (intro w hSw; (try dsimp only at hSw); go_simp; try with_reducible rfl)
      try simp only [Act.put, List.setIfInBounds_toArray, List.set_cons_zero, List.set_cons_succ]
      change wpAnyH _ _ _ _ _ 5 #[true, true, true, false, false, false, false, false] _ _
      refine heldSkip (i := 3) (d := some 31) rfl rfl (by kernel_rfl) (by kernel_rfl) (by kernel_rfl) (fun _ _ _ h => h) (by rfl) (by assumption) ?r3_4
      try simp only [Act.put, List.setIfInBounds_toArray, List.set_cons_zero, List.set_cons_succ]
      change wpAnyH _ _ _ _ _ 4 #[true, true, true, true, false, false, false, false] _ _
      refine heldSkip (i := 4) (d := some 32) rfl rfl (by kernel_rfl) (by kernel_rfl) (by kernel_rfl) (fun _ _ _ h => h) (by rfl) (by assumption) ?r4_5
      try simp only [Act.put, List.setIfInBounds_toArray, List.set_cons_zero, List.set_cons_succ]
      change wpAnyH _ _ _ _ _ 3 #[true, true, true, true, true, false, false, false] _ _
      refine heldSkip (i := 5) (d := some 33) rfl rfl (by kernel_rfl) (by kernel_rfl) (by kernel_rfl) (fun _ _ _ h => h) (by rfl) (by assumption) ?r5_6
      try simp only [Act.put, List.setIfInBounds_toArray, List.set_cons_zero, List.set_cons_succ]
      change wpAnyH _ _ _ _ _ 2 #[true, true, true, true, true, true, false, false] _ _
      refine heldSkip (i := 6) (d := some 34) rfl rfl (by kernel_rfl) (by kernel_rfl) (by kernel_rfl) (fun _ _ _ h => h) (by rfl) (by assumption) ?r6_7
      try simp only [Act.put, List.setIfInBounds_toArray, List.set_cons_zero, List.set_cons_succ]
      change wpAnyH _ _ _ _ _ 1 #[true, true, true, true, true, true, true, false] _ _
      refine heldTake (i := 7) (d := some 35) (v := ?v7_8) rfl rfl (by kernel_rfl) (by kernel_rfl) (by kernel_rfl) (fun _ _ _ h => h) (by rfl) ?hy7_8 (by assumption) ?r7_8
      case hy7_8 => (intro w hSw; (try dsimp only at hSw); go_simp; try with_reducible rfl)
      try simp only [Act.put, List.setIfInBounds_toArray, List.set_cons_zero, List.set_cons_succ]
      change wpAnyH _ _ _ _ _ 0 #[true, true, true, true, true, true, true, true] _ _
      refine wpAnyH_done (by kernel_rfl) ?_ 0
      go_wp2_with fail
      go_ret2
      exact ⟨by rw [HV.out]; rfl, hHeld.2⟩
    | true =>
      rw [if_pos rfl]
      rw [if_neg (by simp)] at HV
      have HTX2 := Lib.hid (fun w => HTX.out w rfl)
      cases hq : ((strOf tx).toList == S.toList) with
      | true =>
        have HQ2 := HQ.out
        rw [hq] at HQ2
        rw [if_pos (of_decide_eq_true HQ2.symm)] at HV
        clear HQ2 HQ
        generalize strOf tx = TX at *
        go_wp2_with fail
        refine wp_region_held_drew (S := fun w' => Blk w' q0 [.string S] 9 ∧ Upd [] w w') (by kernel_rfl) ⟨HB7.out, HU7.out.drew⟩ (fun hHeld => ?_)
        change wpAnyH _ _ _ _ _ 8 #[false, false, false, false, false, false, false, false] _ _
        refine heldTake (i := 0) (d := some 28) (v := ?v0_9) rfl rfl (by kernel_rfl) (by kernel_rfl) (by kernel_rfl) (fun _ _ _ h => h) (by rfl) ?hy0_9 (by assumption) ?r0_9
        case hy0_9 => (intro w hSw; (try dsimp only at hSw); go_simp; try with_reducible rfl)
        try simp only [Act.put, List.setIfInBounds_toArray, List.set_cons_zero, List.set_cons_succ]
        change wpAnyH _ _ _ _ _ 7 #[true, false, false, false, false, false, false, false] _ _
        refine heldTake (i := 1) (d := some 29) (v := ?v1_10) rfl rfl (by kernel_rfl) (by kernel_rfl) (by kernel_rfl) (fun _ _ _ h => h) (by rfl) ?hy1_10 (by assumption) ?r1_10
        case hy1_10 => (intro w hSw; (try dsimp only at hSw); go_simp; try with_reducible rfl)
        try simp only [Act.put, List.setIfInBounds_toArray, List.set_cons_zero, List.set_cons_succ]
        change wpAnyH _ _ _ _ _ 6 #[true, true, false, false, false, false, false, false] _ _
        refine heldTake (i := 2) (d := some 30) (v := ?v2_11) rfl rfl (by kernel_rfl) (by kernel_rfl) (by kernel_rfl) (fun _ _ _ h => h) (by rfl) ?hy2_11 (by assumption) ?r2_11
        case hy2_11 => (intro w hSw; (try dsimp only at hSw); go_simp; try with_reducible rfl)
        try simp only [Act.put, List.setIfInBounds_toArray, List.set_cons_zero, List.set_cons_succ]
        change wpAnyH _ _ _ _ _ 5 #[true, true, true, false, false, false, false, false] _ _
        refine heldTake (i := 3) (d := some 31) (v := ?v3_12) rfl rfl (by kernel_rfl) (by kernel_rfl) (by kernel_rfl) (fun _ _ _ h => h) (by rfl) ?hy3_12 (by assumption) ?r3_12
        case hy3_12 => (intro w hSw; (try dsimp only at hSw); go_simp; try with_reducible rfl)
        try simp only [Act.put, List.setIfInBounds_toArray, List.set_cons_zero, List.set_cons_succ]
        change wpAnyH _ _ _ _ _ 4 #[true, true, true, true, false, false, false, false] _ _
        refine heldTake (i := 5) (d := some 33) (v := ?v5_13) rfl rfl (by kernel_rfl) (by kernel_rfl) (by kernel_rfl) (fun _ _ _ h => h) (by rfl) ?hy5_13 (by assumption) ?r5_13
        case hy5_13 => (intro w5 hSw; have q0c := hSw.1.cell 0 rfl; go_simp; try with_reducible rfl)
        try simp only [Act.put, List.setIfInBounds_toArray, List.set_cons_zero, List.set_cons_succ]
        change wpAnyH _ _ _ _ _ 3 #[true, true, true, true, false, true, false, false] _ _
        refine wpAnyH_ready (rs := [4]) (by kernel_rfl) (by simp) ?_
        refine AllReadyH.cons rfl (fun K hK => ?_) AllReadyH.nil
        go_simp
        refine (HTX2.out _).mono ?_
        rintro e z9 ⟨rfl, hz9⟩
        go_wp2
        refine hK.out _ _ ⟨hHeld.1.upd hz9 (by simp), hHeld.2.then hz9⟩ (fun hHeld => ?_)
        clear hK K
        try simp only [Act.put, List.setIfInBounds_toArray, List.set_cons_zero, List.set_cons_succ]
        change wpAnyH _ _ _ _ _ 2 #[true, true, true, true, true, true, false, false] _ _
        refine heldTake (i := 6) (d := some 34) (v := ?v6_15) rfl rfl (by kernel_rfl) (by kernel_rfl) (by kernel_rfl) (fun _ _ _ h => h) (by rfl) ?hy6_15 (by assumption) ?r6_15
        case hy6_15 => (intro w hSw; (try dsimp only at hSw); go_simp; try with_reducible rfl)
        try simp only [Act.put, List.setIfInBounds_toArray, List.set_cons_zero, List.set_cons_succ]
        change wpAnyH _ _ _ _ _ 1 #[true, true, true, true, true, true, true, false] _ _
        refine heldTake (i := 7) (d := some 35) (v := ?v7_16) rfl rfl (by kernel_rfl) (by kernel_rfl) (by kernel_rfl) (fun _ _ _ h => h) (by rfl) ?hy7_16 (by assumption) ?r7_16
        case hy7_16 => (intro w hSw; (try dsimp only at hSw); go_simp; try with_reducible rfl)
        try simp only [Act.put, List.setIfInBounds_toArray, List.set_cons_zero, List.set_cons_succ]
        change wpAnyH _ _ _ _ _ 0 #[true, true, true, true, true, true, true, true] _ _
        refine wpAnyH_done (by kernel_rfl) ?_ 0
        go_wp2_with fail
        go_ret2
        exact ⟨by rw [HV.out]; rfl, hHeld.2⟩
      | false =>
        have HQ2 := HQ.out
        rw [hq] at HQ2
        rw [if_neg (of_decide_eq_false HQ2.symm)] at HV
        clear HQ2 HQ
        generalize strOf tx = TX at *
        go_wp2_with fail
        refine wp_region_held_drew (S := fun w' => Blk w' q0 [.string S] 9 ∧ Upd [] w w') (by kernel_rfl) ⟨HB7.out, HU7.out.drew⟩ (fun hHeld => ?_)
        change wpAnyH _ _ _ _ _ 8 #[false, false, false, false, false, false, false, false] _ _
        refine heldTake (i := 0) (d := some 28) (v := ?v0_17) rfl rfl (by kernel_rfl) (by kernel_rfl) (by kernel_rfl) (fun _ _ _ h => h) (by rfl) ?hy0_17 (by assumption) ?r0_17
        case hy0_17 => (intro w hSw; (try dsimp only at hSw); go_simp; try with_reducible rfl)
        try simp only [Act.put, List.setIfInBounds_toArray, List.set_cons_zero, List.set_cons_succ]
        change wpAnyH _ _ _ _ _ 7 #[true, false, false, false, false, false, false, false] _ _
        refine heldTake (i := 1) (d := some 29) (v := ?v1_18) rfl rfl (by kernel_rfl) (by kernel_rfl) (by kernel_rfl) (fun _ _ _ h => h) (by rfl) ?hy1_18 (by assumption) ?r1_18
        case hy1_18 => (intro w hSw; (try dsimp only at hSw); go_simp; try with_reducible rfl)
        try simp only [Act.put, List.setIfInBounds_toArray, List.set_cons_zero, List.set_cons_succ]
        change wpAnyH _ _ _ _ _ 6 #[true, true, false, false, false, false, false, false] _ _
        refine heldTake (i := 2) (d := some 30) (v := ?v2_19) rfl rfl (by kernel_rfl) (by kernel_rfl) (by kernel_rfl) (fun _ _ _ h => h) (by rfl) ?hy2_19 (by assumption) ?r2_19
        case hy2_19 => (intro w hSw; (try dsimp only at hSw); go_simp; try with_reducible rfl)
        try simp only [Act.put, List.setIfInBounds_toArray, List.set_cons_zero, List.set_cons_succ]
        change wpAnyH _ _ _ _ _ 5 #[true, true, true, false, false, false, false, false] _ _
        refine heldTake (i := 3) (d := some 31) (v := ?v3_20) rfl rfl (by kernel_rfl) (by kernel_rfl) (by kernel_rfl) (fun _ _ _ h => h) (by rfl) ?hy3_20 (by assumption) ?r3_20
        case hy3_20 => (intro w hSw; (try dsimp only at hSw); go_simp; try with_reducible rfl)
        try simp only [Act.put, List.setIfInBounds_toArray, List.set_cons_zero, List.set_cons_succ]
        change wpAnyH _ _ _ _ _ 4 #[true, true, true, true, false, false, false, false] _ _
        refine heldTake (i := 5) (d := some 33) (v := ?v5_21) rfl rfl (by kernel_rfl) (by kernel_rfl) (by kernel_rfl) (fun _ _ _ h => h) (by rfl) ?hy5_21 (by assumption) ?r5_21
        case hy5_21 => (intro w5 hSw; have q0c := hSw.1.cell 0 rfl; go_simp; try with_reducible rfl)
        try simp only [Act.put, List.setIfInBounds_toArray, List.set_cons_zero, List.set_cons_succ]
        change wpAnyH _ _ _ _ _ 3 #[true, true, true, true, false, true, false, false] _ _
        refine wpAnyH_ready (rs := [4]) (by kernel_rfl) (by simp) ?_
        refine AllReadyH.cons rfl (fun K hK => ?_) AllReadyH.nil
        go_simp
        refine (HTX2.out _).mono ?_
        rintro e z9 ⟨rfl, hz9⟩
        go_wp2
        refine hK.out _ _ ⟨hHeld.1.upd hz9 (by simp), hHeld.2.then hz9⟩ (fun hHeld => ?_)
        clear hK K
        try simp only [Act.put, List.setIfInBounds_toArray, List.set_cons_zero, List.set_cons_succ]
        change wpAnyH _ _ _ _ _ 2 #[true, true, true, true, true, true, false, false] _ _
        refine heldTake (i := 6) (d := some 34) (v := ?v6_23) rfl rfl (by kernel_rfl) (by kernel_rfl) (by kernel_rfl) (fun _ _ _ h => h) (by rfl) ?hy6_23 (by assumption) ?r6_23
        case hy6_23 => (intro w hSw; (try dsimp only at hSw); go_simp; try with_reducible rfl)
        try simp only [Act.put, List.setIfInBounds_toArray, List.set_cons_zero, List.set_cons_succ]
        change wpAnyH _ _ _ _ _ 1 #[true, true, true, true, true, true, true, false] _ _
        refine heldTake (i := 7) (d := some 35) (v := ?v7_24) rfl rfl (by kernel_rfl) (by kernel_rfl) (by kernel_rfl) (fun _ _ _ h => h) (by rfl) ?hy7_24 (by assumption) ?r7_24
        case hy7_24 => (intro w hSw; (try dsimp only at hSw); go_simp; try with_reducible rfl)
        try simp only [Act.put, List.setIfInBounds_toArray, List.set_cons_zero, List.set_cons_succ]
        change wpAnyH _ _ _ _ _ 0 #[true, true, true, true, true, true, true, true] _ _
        refine wpAnyH_done (by kernel_rfl) ?_ 0
        go_wp2_with fail
        go_ret2
        exact ⟨by rw [HV.out]; rfl, hHeld.2⟩
end Go.Proofs.YtigjingielnaoaaGreatDoor
namespace Go.Proofs.YtigjingielnaoaaGreatDoor
set_option linter.unusedVariables false
set_option linter.unusedSimpArgs false
set_option linter.unusedSectionVars false
open Go.RowKit
set_option linter.unusedVariables false
set_option linter.unusedSimpArgs false

/-- The bits of any signs. -/
def bitsM (l : List Nat) : Nat := l.foldl (fun n c => 2 * n + if c = 45 then 0 else 1) 0
theorem bitsM_snoc (l : List Nat) (c : Nat) : bitsM (l ++ [c]) = 2 * bitsM l + if c = 45 then 0 else 1 := by unfold bitsM; rw [List.foldl_append]; rfl
theorem bitsM_lt : ∀ (n : Nat) (l : List Nat), l.length = n → bitsM l < 2 ^ n
  | 0, l, h => by rw [List.eq_nil_of_length_eq_zero h]; simp [bitsM]
  | n + 1, l, h => by
    rcases List.eq_nil_or_concat l with rfl | ⟨L, c, rfl⟩
    · simp at h
    · rw [List.concat_eq_append] at h ⊢
      have ih := bitsM_lt n L (by simp at h; exact h)
      rw [bitsM_snoc, Nat.pow_succ]
      split <;> omega
/-- The mode of a text. -/
def modeP (l : List Nat) : Nat × Bool := if l.length ≠ 9 then (0, false) else if permTo (bitsM l) 9 = l then (bitsM l, true) else (0, false)
def modeV (l : List Nat) : Value := .tuple #[.int .i64 ((modeP l).1 : Nat), .bool (modeP l).2]
theorem or_i64 (a b : Nat) (ha : a < 9223372036854775808) (hb : b < 9223372036854775808) : bits .or .i64 (a : Int) (b : Int) = ((a ||| b : Nat) : Int) := by
  show IntKind.i64.wrap ((BitVec.ofInt 64 (a : Int) ||| BitVec.ofInt 64 (b : Int)).toNat : Int) = _
  rw [BitVec.toNat_or, ofInt_nat 64 a (by omega), ofInt_nat 64 b (by omega)]
  have := Nat.or_lt_two_pow (n := 63) ha hb
  exact IntWalk.i64_in _ (by omega)
theorem permTo_lt (m : Nat) : ∀ i, ∀ x ∈ permTo m i, x < 256
  | 0, x, h => by simp [permTo, permBase] at h; omega
  | i + 1, x, h => by
    unfold permTo at h
    split at h
    · rcases List.mem_or_eq_of_mem_set h with h | rfl
      · exact permTo_lt m i x h
      · omega
    · exact permTo_lt m i x h
set_option maxRecDepth 100000 in
set_option maxHeartbeats 3200000 in
theorem mode14_any (S : ByteArray) (w : World) (hs : S.size ≤ 9223372036854775807) : Calls Tryz.prog 98 #[.string S] w fun e w' => e = .returned (modeV (bytesOf S)) ∧ Upd [] w w' := by
  have hbl := length_bytesOf S
  by_cases h9 : S.size = 9
  rotate_left
  · have HV : Hid (modeV (bytesOf S) = .tuple #[.int .i64 0, .bool false]) := Lib.hid (by unfold modeV modeP; rw [if_pos (by omega)]; rfl)
    have t1 : ((S.size : Int) != 9) = true := by rw [bne_iff_ne]; omega
    clear hbl h9
    go_enter Tryz.func98, Tryz.ntmps98
    go_wp2
    go_ret2
    exact ⟨by rw [HV.out]; rfl, Upd.refl _ _⟩
  · have t1 : ((S.size : Int) != 9) = false := by rw [bne_eq_false_iff_eq]; omega
    have HV : Hid (modeV (bytesOf S) = if permTo (bitsM (bytesOf S)) 9 = bytesOf S then .tuple #[.int .i64 (bitsM (bytesOf S) : Nat), .bool true] else .tuple #[.int .i64 0, .bool false]) := Lib.hid (by
      unfold modeV modeP
      rw [if_neg (by omega)]
      split <;> rfl)
    have HZ := Lib.hid h9
    have HP := Lib.hid (fun k w h => perm_any k w h)
    clear hbl h9
    go_enter Tryz.func98, Tryz.ntmps98
    go_wp2
    go_loopg [2, 8] 9 (fun gg s2 s8 wr => ∃ i, i ≤ 9 ∧ gg = 9 - i ∧ s8 = .int .i64 (i : Nat) ∧ (∃ m : Nat, s2 = .int .i64 (m : Nat) ∧ Hid (m = bitsM ((bytesOf S).take i)) ∧ m < 512) ∧ wr = w)
    case atStart => exact ⟨0, Nat.zero_le _, rfl, rfl, ⟨0, rfl, Lib.hid rfl, by omega⟩, rfl⟩
    case round =>
      obtain ⟨i, hin, rfl, rfl, ⟨m, rfl, HM, hm⟩, rfl⟩ := hrel
      by_cases hc : i < 9
      · have hcz : (i : Int) < 9 := by omega
        have hz := HZ.out
        have hci : i < S.size := by omega
        have hil : i < (bytesOf S).length := by rw [length_bytesOf]; exact hci
        have HG : Hid (bitsM ((bytesOf S).take (i + 1)) = 2 * m + if S[i].toNat = 45 then 0 else 1) := Lib.hid (by
          rw [List.take_succ_eq_append_getElem hil, bitsM_snoc, ← HM.out, bytesOf_get S i hci])
        have hlt : bitsM ((bytesOf S).take (i + 1)) < 512 := by
          have := bitsM_lt (i + 1) ((bytesOf S).take (i + 1)) (by rw [List.length_take]; omega)
          have h2 : 2 ^ (i + 1) ≤ 2 ^ 9 := Nat.pow_le_pow_right (by omega) (by omega)
          omega
        have hbl : S[i].toNat < 256 := S[i].toNat_lt
        have hor : bits .or .i64 ((m : Int) * 2) 1 = ((2 * m + 1 : Nat) : Int) := by
          have h := or_i64 (2 * m) 1 (by omega) (by omega)
          have e : 2 * m ||| 1 = 2 * m + 1 := or_add m 1 1 (by omega)
          rw [e] at h
          rw [show (m : Int) * 2 = ((2 * m : Nat) : Int) by omega]
          exact h
        rw [HG.out] at hlt
        generalize hcc : S[i].toNat = c at *
        by_cases h45 : c = 45
        · have t2 : ((c : Int) != 45) = false := by rw [bne_eq_false_iff_eq]; omega
          have HG2 : Hid (bitsM ((bytesOf S).take (i + 1)) = 2 * m) := Lib.hid (by rw [HG.out, if_pos h45]; rfl)
          clear HG HM h45 hlt hil hor
          go_wp2
          go_roundg (9 - (i + 1))
          · exact ⟨i + 1, by omega, rfl, by first | rfl | go_num, ⟨2 * m, by first | rfl | go_num, Lib.hid HG2.out.symm, by have := bitsM_lt (i + 1) ((bytesOf S).take (i + 1)) (by rw [List.length_take, length_bytesOf]; omega); have h2 : 2 ^ (i + 1) ≤ 2 ^ 9 := Nat.pow_le_pow_right (by omega) (by omega); have := HG2.out; omega⟩, rfl⟩
          · omega
        · have t2 : ((c : Int) != 45) = true := by rw [bne_iff_ne]; omega
          have HG2 : Hid (bitsM ((bytesOf S).take (i + 1)) = 2 * m + 1) := Lib.hid (by rw [HG.out, if_neg h45])
          clear HG HM h45 hlt hil
          go_wp2
          go_roundg (9 - (i + 1))
          · exact ⟨i + 1, by omega, rfl, by first | rfl | go_num, ⟨2 * m + 1, by first | rfl | go_num, Lib.hid HG2.out.symm, by have := bitsM_lt (i + 1) ((bytesOf S).take (i + 1)) (by rw [List.length_take, length_bytesOf]; omega); have h2 : 2 ^ (i + 1) ≤ 2 ^ 9 := Nat.pow_le_pow_right (by omega) (by omega); have := HG2.out; omega⟩, rfl⟩
          · omega
      · have hcz : ¬ (i : Int) < 9 := by omega
        have hix : i = 9 := by omega
        subst hix
        have hT : (bytesOf S).take 9 = bytesOf S := List.take_of_length_le (by rw [length_bytesOf]; have := HZ.out; omega)
        rw [hT] at HM
        clear hT
        rw [← HM.out] at HV
        have hne := strOf_eqS (permTo m 9) S (permTo_lt m 9)
        by_cases hq : permTo m 9 = bytesOf S
        · rw [decide_eq_true hq] at hne
          rw [if_pos hq] at HV
          clear hq
          go_wp2_with fail
          refine (HP.out m _ hm).mono ?_
          rintro e w1 ⟨rfl, hu1⟩
          go_wp2
          go_ret2
          exact ⟨by rw [HV.out]; rfl, hu1⟩
        · rw [decide_eq_false hq] at hne
          rw [if_neg hq] at HV
          clear hq
          go_wp2_with fail
          refine (HP.out m _ hm).mono ?_
          rintro e w1 ⟨rfl, hu1⟩
          go_wp2
          go_ret2
          exact ⟨by rw [HV.out]; rfl, hu1⟩
end Go.Proofs.YtigjingielnaoaaGreatDoor
namespace Go.Proofs.YtigjingielnaoaaGreatDoor
set_option linter.unusedVariables false
set_option linter.unusedSimpArgs false
set_option linter.unusedSectionVars false
open Go.RowKit
set_option linter.unusedVariables false
set_option linter.unusedSimpArgs false

/-- The decimal digits of a number. -/
def decL (n : Nat) : List Nat := if h : n < 10 then [48 + n] else decL (n / 10) ++ [48 + n % 10]
termination_by n
decreasing_by omega
theorem decL_small (n : Nat) (h : n < 10) : decL n = [48 + n] := by rw [decL, dif_pos h]
theorem decL_big (n : Nat) (h : ¬ n < 10) : decL n = decL (n / 10) ++ [48 + n % 10] := by rw [decL, dif_neg h]
theorem decL_len : ∀ (k n : Nat), n < 10 ^ k → (decL n).length ≤ k + 1
  | 0, n, h => by rw [decL_small n (by omega)]; simp
  | k + 1, n, h => by
    by_cases h10 : n < 10
    · rw [decL_small n h10]; simp
    · rw [decL_big n h10, List.length_append]
      have := decL_len k (n / 10) (by rw [Nat.pow_succ] at h; omega)
      simp; omega
theorem decL_dig : ∀ (k n : Nat), n < 10 ^ k → ∀ x ∈ decL n, 48 ≤ x ∧ x ≤ 57
  | 0, n, h, x, hx => by rw [decL_small n (by omega)] at hx; simp at hx; omega
  | k + 1, n, h, x, hx => by
    by_cases h10 : n < 10
    · rw [decL_small n h10] at hx; simp at hx; omega
    · rw [decL_big n h10] at hx
      rcases List.mem_append.1 hx with hx | hx
      · exact decL_dig k (n / 10) (by rw [Nat.pow_succ] at h; omega) x hx
      · simp at hx; omega
theorem conv1_row (n : Nat) (w : World) : (convert 87 9 (.slice (some ⟨w.heap.size, 0, none⟩) 1 1)).run Tryz.prog (w.alloc (.cells #[.int .u8 (48 + (n : Int) % 10)] 5)) = .ok (.string (strOf [48 + n % 10])) (w.alloc (.cells #[.int .u8 (48 + (n : Int) % 10)] 5)) := by
  have hB := Blk.new w (u8s [48 + n % 10]) 5
  have hcv := hB.conv (P := Tryz.prog) (c := 1) (n := 1) rfl Tryz.underlying87 Tryz.underlying5 Tryz.underlying9
  have hw2 : ((48 + n % 10 : Nat) : Int) = 48 + (n : Int) % 10 := by omega
  unfold u8s at hcv
  simp only [List.map_cons, List.map_nil] at hcv
  rw [hw2] at hcv
  exact hcv
theorem conv1_small (n : Nat) (w : World) : (convert 87 9 (.slice (some ⟨w.heap.size, 0, none⟩) 1 1)).run Tryz.prog (w.alloc (.cells #[.int .u8 (48 + (n : Int))] 5)) = .ok (.string (strOf [48 + n])) (w.alloc (.cells #[.int .u8 (48 + (n : Int))] 5)) := by
  have hB := Blk.new w (u8s [48 + n]) 5
  have hcv := hB.conv (P := Tryz.prog) (c := 1) (n := 1) rfl Tryz.underlying87 Tryz.underlying5 Tryz.underlying9
  have hw2 : ((48 + n : Nat) : Int) = 48 + (n : Int) := by omega
  unfold u8s at hcv
  simp only [List.map_cons, List.map_nil] at hcv
  rw [hw2] at hcv
  exact hcv
theorem add1_row (d : Nat) (L : List Nat) (hL : L.length ≤ 100) (w : World) : (Op.stringOp .add (strOf [d]) (strOf L)).run Tryz.prog w = .ok (.string (strOf (d :: L))) w := by
  rw [run_string_add_sum _ _ _ (by rw [size_strOf, size_strOf]; simp; omega), ← strOf_cat]; rfl
set_option maxRecDepth 100000 in
set_option maxHeartbeats 3200000 in
theorem rdec_any (n : Nat) (w : World) (hn : n < 1000000) : Calls Tryz.prog 20 #[.int .i64 (n : Nat)] w fun e w' => e = .returned (.string (strOf (decL n))) ∧ Upd [] w w' := by
  have hcz0 : ¬ (n : Int) < 0 := by omega
  have hcv := conv1_row n w
  go_enter Tryz.func20, Tryz.ntmps20
  go_wp2
  clear hcv
  have hU0 : Upd [] w (w.alloc (.cells #[.int .u8 (48 + (n : Int) % 10)] 5)) := (Upd.refl [] w).alloc _
  have HU0 := Lib.hid hU0
  clear hU0
  generalize w.alloc (.cells #[.int .u8 (48 + (n : Int) % 10)] 5) = w0 at *
  go_loopg [0, 3] (0 + n / 10) (fun gg s0 s3 wr => ∃ (m : Nat) (L : List Nat), gg = 0 + m ∧ s0 = .int .i64 (m : Nat) ∧ s3 = .string (strOf L) ∧ Hid (decL n = (if m = 0 then [] else decL m) ++ L) ∧ m < 1000000 ∧ Hid (L.length ≤ 7) ∧ Hid (Upd [] w wr))
  case atStart =>
    refine ⟨n / 10, [48 + n % 10], rfl, by first | rfl | go_num, rfl, Lib.hid ?_, by omega, Lib.hid (by simp), HU0⟩
    by_cases h : n < 10
    · rw [if_pos (by omega), decL_small n h, Nat.mod_eq_of_lt h]; rfl
    · rw [if_neg (by omega), decL_big n h]
  case round =>
    obtain ⟨m, L, rfl, rfl, rfl, HM, hm, HL, HU⟩ := hrel
    clear HU0
    have HA := Lib.hid (fun d w => add1_row d L (by have := HL.out; omega) w)
    by_cases hc : 0 < m
    · have hcz : (0 : Int) < (m : Int) := by omega
      have hcv := conv1_row m wr
      have hadd := fun w => HA.out (48 + m % 10) w
      have HL2 : Hid (decL n = (if m / 10 = 0 then [] else decL (m / 10)) ++ ((48 + m % 10) :: L)) := Lib.hid (by
        rw [HM.out, if_neg (by omega)]
        by_cases h : m < 10
        · rw [if_pos (by omega), decL_small m h, Nat.mod_eq_of_lt h]; rfl
        · rw [if_neg (by omega), decL_big m h, List.append_assoc]; rfl)
      have HL7 : Hid (((48 + m % 10) :: L).length ≤ 7) := Lib.hid (by
        have h1 := HL2.out
        have h2 := decL_len 6 n (by omega)
        rw [h1, List.length_append] at h2
        omega)
      generalize ((48 + m % 10) :: L) = L2 at *
      go_wp2
      go_roundg (0 + m / 10)
      · exact ⟨m / 10, L2, rfl, by first | rfl | go_num, rfl, HL2, by omega, HL7, Lib.hid (HU.out.alloc _)⟩
      · omega
    · have hcz : ¬ (0 : Int) < (m : Int) := by omega
      have hm0 : m = 0 := by omega
      subst hm0
      have HL2 : Hid (decL n = L) := Lib.hid (by rw [HM.out, if_pos rfl]; rfl)
      go_wp2
      go_ret
      exact ⟨by rw [HL2.out]; rfl, HU.out⟩
end Go.Proofs.YtigjingielnaoaaGreatDoor
