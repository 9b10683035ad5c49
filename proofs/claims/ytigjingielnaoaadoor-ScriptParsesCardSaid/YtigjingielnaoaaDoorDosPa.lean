/- Package dos: Parse: its walk. -/
import Derived.Test.YtigjingielnaoaaDoorDosOf
namespace Go.Proofs.YtigjingielnaoaaDoor
set_option linter.unusedVariables false
set_option linter.unusedSimpArgs false
set_option linter.unusedSectionVars false
open Go.RowKit
set_option linter.unusedVariables false
set_option linter.unusedSimpArgs false

def partAt (l : List Nat) (a b : Nat) : Int := numD ((l.drop a).take (b - a))
def rightT (l : List Nat) : Bool := rightG (partAt l 0 4) (partAt l 5 7) (partAt l 8 10) (partAt l 11 13) (partAt l 14 16) (partAt l 17 19)
def timeT (l : List Nat) : Nat := ofN (partAt l 0 4).toNat (partAt l 5 7).toNat (partAt l 8 10).toNat (partAt l 11 13).toNat (partAt l 14 16).toNat (partAt l 17 19).toNat
/-- The time of a text. -/
def dosParseP (l : List Nat) : Nat × Bool := if l.length ≠ 19 then (0, false) else if rightT l = false then (0, false) else if dosTextP (timeT l) = l then (timeT l, true) else (0, false)
def dosParseV (l : List Nat) : Value := .tuple #[.int .u32 ((dosParseP l).1 : Nat), .bool (dosParseP l).2]
theorem timeT_lt {l : List Nat} (h : rightT l = true) : timeT l < 4294967296 := by
  unfold rightT at h
  obtain ⟨yn, mn, dn, hn, ni, sn, e1, e2, e3, e4, e5, e6, c1, c2, c3, c4, c5, c6, c7⟩ := rightG_nat h
  unfold timeT
  rw [e1, e2, e3, e4, e5, e6]
  simp only [Int.toNat_natCast]
  unfold ofN
  omega
theorem clockP_lt (y mo d h mi s : Nat) : ∀ x ∈ clockP y mo d h mi s, x < 256 := by
  intro x hx
  unfold clockP at hx
  simp only [List.mem_append, List.mem_singleton] at hx
  rcases hx with (((((((((h | h) | h) | h) | h) | h) | h) | h) | h) | h) | h
  all_goals first
    | exact digP_lt _ _ x h
    | omega
theorem dosTextP_lt (t : Nat) : ∀ x ∈ dosTextP t, x < 256 := by
  unfold dosTextP
  split
  · exact clockP_lt _ _ _ _ _ _
  · intro x hx; cases hx
theorem strOf_eqS (l : List Nat) (S : ByteArray) (hl : ∀ x ∈ l, x < 256) : ((strOf l).toList == S.toList) = decide (l = bytesOf S) := by
  rw [Bool.eq_iff_iff, beq_iff_eq, decide_eq_true_eq]
  refine ⟨fun h => ?_, fun h => by rw [h, strOf_bytesOf]⟩
  rw [ByteArray.toList_eq, ByteArray.toList_eq] at h
  have : strOf l = S := ByteArray.ext (Array.ext' h)
  rw [← this, bytesOf_strOf l hl]
set_option maxRecDepth 100000 in
set_option maxHeartbeats 6400000 in
theorem dosParse_any (S : ByteArray) (w : World) (hs : S.size ≤ 1000000) : Calls Tryd.prog 29 #[.string S] w fun e w' => e = .returned (dosParseV (bytesOf S)) ∧ Upd [] w w' := by
  have hbl := length_bytesOf S
  have HB0 := Lib.hid (Blk.new w [.string S] 9)
  have HU0 := Lib.hid ((Upd.refl [] w).alloc (.cells #[.string S] 9))
  by_cases h19 : S.size = 19
  rotate_left
  · have HV : Hid (dosParseV (bytesOf S) = .tuple #[.int .u32 0, .bool false]) := Lib.hid (by unfold dosParseV dosParseP; rw [if_pos (by omega)]; rfl)
    have t1 : ((S.size : Int) != 19) = true := by rw [bne_iff_ne]; omega
    go_enter Tryd.func29, Tryd.ntmps29
    go_wp2
    go_ret2
    exact ⟨by rw [HV.out]; rfl, HU0.out⟩
  · have t1 : ((S.size : Int) != 19) = false := by rw [bne_eq_false_iff_eq]; omega
    have HV : Hid (dosParseV (bytesOf S) = if rightT (bytesOf S) = false then .tuple #[.int .u32 0, .bool false] else if dosTextP (timeT (bytesOf S)) = bytesOf S then .tuple #[.int .u32 (timeT (bytesOf S) : Nat), .bool true] else .tuple #[.int .u32 0, .bool false]) := Lib.hid (by
      unfold dosParseV dosParseP
      rw [if_neg (by omega)]
      by_cases h1 : rightT (bytesOf S) = false
      · rw [if_pos h1, if_pos h1]; rfl
      · rw [if_neg h1, if_neg h1]
        by_cases h2 : dosTextP (timeT (bytesOf S)) = bytesOf S
        · rw [if_pos h2, if_pos h2]
        · rw [if_neg h2, if_neg h2]; rfl)
    have HP0 := Lib.hid (fun (w9 : World) (g : Nat) hg => parse1_any S 0 4 g w9 hg (by omega) (by omega) (by omega))
    have HP1 := Lib.hid (fun (w9 : World) (g : Nat) hg => parse1_any S 5 7 g w9 hg (by omega) (by omega) (by omega))
    have HP2 := Lib.hid (fun (w9 : World) (g : Nat) hg => parse1_any S 8 10 g w9 hg (by omega) (by omega) (by omega))
    have HP3 := Lib.hid (fun (w9 : World) (g : Nat) hg => parse1_any S 11 13 g w9 hg (by omega) (by omega) (by omega))
    have HP4 := Lib.hid (fun (w9 : World) (g : Nat) hg => parse1_any S 14 16 g w9 hg (by omega) (by omega) (by omega))
    have HP5 := Lib.hid (fun (w9 : World) (g : Nat) hg => parse1_any S 17 19 g w9 hg (by omega) (by omega) (by omega))
    have HOF := Lib.hid (fun w => dosOf_any (partAt (bytesOf S) 0 4) (partAt (bytesOf S) 5 7) (partAt (bytesOf S) 8 10) (partAt (bytesOf S) 11 13) (partAt (bytesOf S) 14 16) (partAt (bytesOf S) 17 19) w)
    have HO1 : Hid (ofV (partAt (bytesOf S) 0 4) (partAt (bytesOf S) 5 7) (partAt (bytesOf S) 8 10) (partAt (bytesOf S) 11 13) (partAt (bytesOf S) 14 16) (partAt (bytesOf S) 17 19) = if rightT (bytesOf S) = true then .tuple #[.int .u32 (timeT (bytesOf S) : Nat), .bool true] else .tuple #[.int .u32 0, .bool false]) := Lib.hid rfl
    rw [HO1.out] at HOF
    have HTX := Lib.hid (fun w h => dosText_any (timeT (bytesOf S)) w (timeT_lt h))
    have HQ := Lib.hid (strOf_eqS (dosTextP (timeT (bytesOf S))) S (dosTextP_lt _))
    have HE0 : Hid (numD (((bytesOf S).drop 0).take (4 - 0)) = partAt (bytesOf S) 0 4) := Lib.hid rfl
    rw [HE0.out] at HP0
    clear HE0
    have HE1 : Hid (numD (((bytesOf S).drop 5).take (7 - 5)) = partAt (bytesOf S) 5 7) := Lib.hid rfl
    rw [HE1.out] at HP1
    clear HE1
    have HE2 : Hid (numD (((bytesOf S).drop 8).take (10 - 8)) = partAt (bytesOf S) 8 10) := Lib.hid rfl
    rw [HE2.out] at HP2
    clear HE2
    have HE3 : Hid (numD (((bytesOf S).drop 11).take (13 - 11)) = partAt (bytesOf S) 11 13) := Lib.hid rfl
    rw [HE3.out] at HP3
    clear HE3
    have HE4 : Hid (numD (((bytesOf S).drop 14).take (16 - 14)) = partAt (bytesOf S) 14 16) := Lib.hid rfl
    rw [HE4.out] at HP4
    clear HE4
    have HE5 : Hid (numD (((bytesOf S).drop 17).take (19 - 17)) = partAt (bytesOf S) 17 19) := Lib.hid rfl
    rw [HE5.out] at HP5
    clear HE5
    generalize partAt (bytesOf S) 0 4 = p0 at *
    generalize partAt (bytesOf S) 5 7 = p1 at *
    generalize partAt (bytesOf S) 8 10 = p2 at *
    generalize partAt (bytesOf S) 11 13 = p3 at *
    generalize partAt (bytesOf S) 14 16 = p4 at *
    generalize partAt (bytesOf S) 17 19 = p5 at *
    generalize timeT (bytesOf S) = tt at *
    generalize dosTextP tt = tx at *
    generalize rightT (bytesOf S) = rb at *
    clear HO1
    go_enter Tryd.func29, Tryd.ntmps29
    go_wp2_with fail
    generalize w.heap.size = q0 at *
    refine (HP0.out _ q0 (HB0.out.cell 0 rfl)).mono ?_
    rintro e w1 ⟨rfl, hu1⟩
    have HB1 := Lib.hid (HB0.out.upd hu1 (by simp))
    have HU1 := Lib.hid (HU0.out.then hu1)
    clear HB0 HU0 hu1
    go_wp2_with fail
    refine (HP1.out _ q0 (HB1.out.cell 0 rfl)).mono ?_
    rintro e w2 ⟨rfl, hu2⟩
    have HB2 := Lib.hid (HB1.out.upd hu2 (by simp))
    have HU2 := Lib.hid (HU1.out.then hu2)
    clear HB1 HU1 hu2
    go_wp2_with fail
    refine (HP2.out _ q0 (HB2.out.cell 0 rfl)).mono ?_
    rintro e w3 ⟨rfl, hu3⟩
    have HB3 := Lib.hid (HB2.out.upd hu3 (by simp))
    have HU3 := Lib.hid (HU2.out.then hu3)
    clear HB2 HU2 hu3
    go_wp2_with fail
    refine (HP3.out _ q0 (HB3.out.cell 0 rfl)).mono ?_
    rintro e w4 ⟨rfl, hu4⟩
    have HB4 := Lib.hid (HB3.out.upd hu4 (by simp))
    have HU4 := Lib.hid (HU3.out.then hu4)
    clear HB3 HU3 hu4
    go_wp2_with fail
    refine (HP4.out _ q0 (HB4.out.cell 0 rfl)).mono ?_
    rintro e w5 ⟨rfl, hu5⟩
    have HB5 := Lib.hid (HB4.out.upd hu5 (by simp))
    have HU5 := Lib.hid (HU4.out.then hu5)
    clear HB4 HU4 hu5
    go_wp2_with fail
    refine (HP5.out _ q0 (HB5.out.cell 0 rfl)).mono ?_
    rintro e w6 ⟨rfl, hu6⟩
    have HB6 := Lib.hid (HB5.out.upd hu6 (by simp))
    have HU6 := Lib.hid (HU5.out.then hu6)
    clear HB5 HU5 hu6
    go_wp2_with fail
    refine (HOF.out _).mono ?_
    rintro e w7 ⟨rfl, hu7⟩
    have HB7 := Lib.hid (HB6.out.upd hu7 (by simp))
    have HU7 := Lib.hid (HU6.out.then hu7)
    clear HB6 HU6 hu7
    cases rb with
    | false =>
      rw [if_neg (by simp)]
      rw [if_pos rfl] at HV
      go_wp2_with fail
      refine wp_region_held_drew (S := fun w' => Blk w' q0 [.string S] 9 ∧ Upd [] w w') (by kernel_rfl) ⟨HB7.out, HU7.out.drew⟩ (fun hHeld => ?_)
      change wpAnyH _ _ _ _ _ 8 #[false, false, false, false, false, false, false, false] _ _
      refine heldTake (i := 0) (d := some 28) (v := ?v0_1) rfl rfl (by kernel_rfl) (by kernel_rfl) (by kernel_rfl) (fun _ _ _ h => h) (by rfl) ?hy0_1 (by assumption) ?r0_1
      case hy0_1 => (intro w hSw; (try dsimp only at hSw); go_simp; try with_reducible rfl)
      try simp only [Act.put, List.setIfInBounds_toArray, List.set_cons_zero, List.set_cons_succ]
      change wpAnyH _ _ _ _ _ 7 #[true, false, false, false, false, false, false, false] _ _
      refine heldTake (i := 1) (d := some 29) (v := ?v1_2) rfl rfl (by kernel_rfl) (by kernel_rfl) (by kernel_rfl) (fun _ _ _ h => h) (by rfl) ?hy1_2 (by assumption) ?r1_2
      case hy1_2 => (intro w hSw; (try dsimp only at hSw); go_simp; try with_reducible rfl)
      try simp only [Act.put, List.setIfInBounds_toArray, List.set_cons_zero, List.set_cons_succ]
      change wpAnyH _ _ _ _ _ 6 #[true, true, false, false, false, false, false, false] _ _
      refine heldTake (i := 2) (d := some 30) (v := ?v2_3) rfl rfl (by kernel_rfl) (by kernel_rfl) (by kernel_rfl) (fun _ _ _ h => h) (by rfl) ?hy2_3 (by assumption) ?r2_3
      case hy2_3 => (intro w hSw; (try dsimp only at hSw); go_simp; try with_reducible rfl)
      try simp only [Act.put, List.setIfInBounds_toArray, List.set_cons_zero, List.set_cons_succ]
      change wpAnyH _ _ _ _ _ 5 #[true, true, true, false, false, false, false, false] _ _
      refine heldSkip (i := 3) (d := some 31) rfl rfl (by kernel_rfl) (by kernel_rfl) (by kernel_rfl) (fun _ _ _ h => h) (by rfl) (by assumption) ?r3_4
      try simp only [Act.put, List.setIfInBounds_toArray, List.set_cons_zero, List.set_cons_succ]
      change wpAnyH _ _ _ _ _ 4 #[true, true, true, true, false, false, false, false] _ _
      refine heldSkip (i := 4) (d := some 32) rfl rfl (by kernel_rfl) (by kernel_rfl) (by kernel_rfl) (fun _ _ _ h => h) (by rfl) (by assumption) ?r4_5
      try simp only [Act.put, List.setIfInBounds_toArray, List.set_cons_zero, List.set_cons_succ]
      change wpAnyH _ _ _ _ _ 3 #[true, true, true, true, true, false, false, false] _ _
      refine heldSkip (i := 5) (d := some 33) rfl rfl (by kernel_rfl) (by kernel_rfl) (by kernel_rfl) (fun _ _ _ h => h) (by rfl) (by assumption) ?r5_6
      try simp only [Act.put, List.setIfInBounds_toArray, List.set_cons_zero, List.set_cons_succ]
      change wpAnyH _ _ _ _ _ 2 #[true, true, true, true, true, true, false, false] _ _
      refine heldSkip (i := 6) (d := some 34) rfl rfl (by kernel_rfl) (by kernel_rfl) (by kernel_rfl) (fun _ _ _ h => h) (by rfl) (by assumption) ?r6_7
      try simp only [Act.put, List.setIfInBounds_toArray, List.set_cons_zero, List.set_cons_succ]
      change wpAnyH _ _ _ _ _ 1 #[true, true, true, true, true, true, true, false] _ _
      refine heldTake (i := 7) (d := some 35) (v := ?v7_8) rfl rfl (by kernel_rfl) (by kernel_rfl) (by kernel_rfl) (fun _ _ _ h => h) (by rfl) ?hy7_8 (by assumption) ?r7_8
      case hy7_8 => (intro w hSw; (try dsimp only at hSw); go_simp; try with_reducible rfl)
      try simp only [Act.put, List.setIfInBounds_toArray, List.set_cons_zero, List.set_cons_succ]
      change wpAnyH _ _ _ _ _ 0 #[true, true, true, true, true, true, true, true] _ _
      refine wpAnyH_done (by kernel_rfl) ?_ 0
      go_wp2_with fail
      go_ret2
      exact ⟨by rw [HV.out]; rfl, hHeld.2⟩
    | true =>
      rw [if_pos rfl]
      rw [if_neg (by simp)] at HV
      have HTX2 := Lib.hid (fun w => HTX.out w rfl)
      cases hq : ((strOf tx).toList == S.toList) with
      | true =>
        have HQ2 := HQ.out
        rw [hq] at HQ2
        rw [if_pos (of_decide_eq_true HQ2.symm)] at HV
        clear HQ2 HQ
        generalize strOf tx = TX at *
        go_wp2_with fail
        refine wp_region_held_drew (S := fun w' => Blk w' q0 [.string S] 9 ∧ Upd [] w w') (by kernel_rfl) ⟨HB7.out, HU7.out.drew⟩ (fun hHeld => ?_)
        change wpAnyH _ _ _ _ _ 8 #[false, false, false, false, false, false, false, false] _ _
        refine heldTake (i := 0) (d := some 28) (v := ?v0_9) rfl rfl (by kernel_rfl) (by kernel_rfl) (by kernel_rfl) (fun _ _ _ h => h) (by rfl) ?hy0_9 (by assumption) ?r0_9
        case hy0_9 => (intro w hSw; (try dsimp only at hSw); go_simp; try with_reducible rfl)
        try simp only [Act.put, List.setIfInBounds_toArray, List.set_cons_zero, List.set_cons_succ]
        change wpAnyH _ _ _ _ _ 7 #[true, false, false, false, false, false, false, false] _ _
        refine heldTake (i := 1) (d := some 29) (v := ?v1_10) rfl rfl (by kernel_rfl) (by kernel_rfl) (by kernel_rfl) (fun _ _ _ h => h) (by rfl) ?hy1_10 (by assumption) ?r1_10
        case hy1_10 => (intro w hSw; (try dsimp only at hSw); go_simp; try with_reducible rfl)
        try simp only [Act.put, List.setIfInBounds_toArray, List.set_cons_zero, List.set_cons_succ]
        change wpAnyH _ _ _ _ _ 6 #[true, true, false, false, false, false, false, false] _ _
        refine heldTake (i := 2) (d := some 30) (v := ?v2_11) rfl rfl (by kernel_rfl) (by kernel_rfl) (by kernel_rfl) (fun _ _ _ h => h) (by rfl) ?hy2_11 (by assumption) ?r2_11
        case hy2_11 => (intro w hSw; (try dsimp only at hSw); go_simp; try with_reducible rfl)
        try simp only [Act.put, List.setIfInBounds_toArray, List.set_cons_zero, List.set_cons_succ]
        change wpAnyH _ _ _ _ _ 5 #[true, true, true, false, false, false, false, false] _ _
        refine heldTake (i := 3) (d := some 31) (v := ?v3_12) rfl rfl (by kernel_rfl) (by kernel_rfl) (by kernel_rfl) (fun _ _ _ h => h) (by rfl) ?hy3_12 (by assumption) ?r3_12
        case hy3_12 => (intro w hSw; (try dsimp only at hSw); go_simp; try with_reducible rfl)
        try simp only [Act.put, List.setIfInBounds_toArray, List.set_cons_zero, List.set_cons_succ]
        change wpAnyH _ _ _ _ _ 4 #[true, true, true, true, false, false, false, false] _ _
        refine heldTake (i := 5) (d := some 33) (v := ?v5_13) rfl rfl (by kernel_rfl) (by kernel_rfl) (by kernel_rfl) (fun _ _ _ h => h) (by rfl) ?hy5_13 (by assumption) ?r5_13
        case hy5_13 => (intro w5 hSw; have q0c := hSw.1.cell 0 rfl; go_simp; try with_reducible rfl)
        try simp only [Act.put, List.setIfInBounds_toArray, List.set_cons_zero, List.set_cons_succ]
        change wpAnyH _ _ _ _ _ 3 #[true, true, true, true, false, true, false, false] _ _
        refine wpAnyH_ready (rs := [4]) (by kernel_rfl) (by simp) ?_
        refine AllReadyH.cons rfl (fun K hK => ?_) AllReadyH.nil
        go_simp
        refine (HTX2.out _).mono ?_
        rintro e z9 ⟨rfl, hz9⟩
        go_wp2
        refine hK.out _ _ ⟨hHeld.1.upd hz9 (by simp), hHeld.2.then hz9⟩ (fun hHeld => ?_)
        clear hK K
        try simp only [Act.put, List.setIfInBounds_toArray, List.set_cons_zero, List.set_cons_succ]
        change wpAnyH _ _ _ _ _ 2 #[true, true, true, true, true, true, false, false] _ _
        refine heldTake (i := 6) (d := some 34) (v := ?v6_15) rfl rfl (by kernel_rfl) (by kernel_rfl) (by kernel_rfl) (fun _ _ _ h => h) (by rfl) ?hy6_15 (by assumption) ?r6_15
        case hy6_15 => (intro w hSw; (try dsimp only at hSw); go_simp; try with_reducible rfl)
        try simp only [Act.put, List.setIfInBounds_toArray, List.set_cons_zero, List.set_cons_succ]
        change wpAnyH _ _ _ _ _ 1 #[true, true, true, true, true, true, true, false] _ _
        refine heldTake (i := 7) (d := some 35) (v := ?v7_16) rfl rfl (by kernel_rfl) (by kernel_rfl) (by kernel_rfl) (fun _ _ _ h => h) (by rfl) ?hy7_16 (by assumption) ?r7_16
        case hy7_16 => (intro w hSw; (try dsimp only at hSw); go_simp; try with_reducible rfl)
        try simp only [Act.put, List.setIfInBounds_toArray, List.set_cons_zero, List.set_cons_succ]
        change wpAnyH _ _ _ _ _ 0 #[true, true, true, true, true, true, true, true] _ _
        refine wpAnyH_done (by kernel_rfl) ?_ 0
        go_wp2_with fail
        go_ret2
        exact ⟨by rw [HV.out]; rfl, hHeld.2⟩
      | false =>
        have HQ2 := HQ.out
        rw [hq] at HQ2
        rw [if_neg (of_decide_eq_false HQ2.symm)] at HV
        clear HQ2 HQ
        generalize strOf tx = TX at *
        go_wp2_with fail
        refine wp_region_held_drew (S := fun w' => Blk w' q0 [.string S] 9 ∧ Upd [] w w') (by kernel_rfl) ⟨HB7.out, HU7.out.drew⟩ (fun hHeld => ?_)
        change wpAnyH _ _ _ _ _ 8 #[false, false, false, false, false, false, false, false] _ _
        refine heldTake (i := 0) (d := some 28) (v := ?v0_17) rfl rfl (by kernel_rfl) (by kernel_rfl) (by kernel_rfl) (fun _ _ _ h => h) (by rfl) ?hy0_17 (by assumption) ?r0_17
        case hy0_17 => (intro w hSw; (try dsimp only at hSw); go_simp; try with_reducible rfl)
        try simp only [Act.put, List.setIfInBounds_toArray, List.set_cons_zero, List.set_cons_succ]
        change wpAnyH _ _ _ _ _ 7 #[true, false, false, false, false, false, false, false] _ _
        refine heldTake (i := 1) (d := some 29) (v := ?v1_18) rfl rfl (by kernel_rfl) (by kernel_rfl) (by kernel_rfl) (fun _ _ _ h => h) (by rfl) ?hy1_18 (by assumption) ?r1_18
        case hy1_18 => (intro w hSw; (try dsimp only at hSw); go_simp; try with_reducible rfl)
        try simp only [Act.put, List.setIfInBounds_toArray, List.set_cons_zero, List.set_cons_succ]
        change wpAnyH _ _ _ _ _ 6 #[true, true, false, false, false, false, false, false] _ _
        refine heldTake (i := 2) (d := some 30) (v := ?v2_19) rfl rfl (by kernel_rfl) (by kernel_rfl) (by kernel_rfl) (fun _ _ _ h => h) (by rfl) ?hy2_19 (by assumption) ?r2_19
        case hy2_19 => (intro w hSw; (try dsimp only at hSw); go_simp; try with_reducible rfl)
        try simp only [Act.put, List.setIfInBounds_toArray, List.set_cons_zero, List.set_cons_succ]
        change wpAnyH _ _ _ _ _ 5 #[true, true, true, false, false, false, false, false] _ _
        refine heldTake (i := 3) (d := some 31) (v := ?v3_20) rfl rfl (by kernel_rfl) (by kernel_rfl) (by kernel_rfl) (fun _ _ _ h => h) (by rfl) ?hy3_20 (by assumption) ?r3_20
        case hy3_20 => (intro w hSw; (try dsimp only at hSw); go_simp; try with_reducible rfl)
        try simp only [Act.put, List.setIfInBounds_toArray, List.set_cons_zero, List.set_cons_succ]
        change wpAnyH _ _ _ _ _ 4 #[true, true, true, true, false, false, false, false] _ _
        refine heldTake (i := 5) (d := some 33) (v := ?v5_21) rfl rfl (by kernel_rfl) (by kernel_rfl) (by kernel_rfl) (fun _ _ _ h => h) (by rfl) ?hy5_21 (by assumption) ?r5_21
        case hy5_21 => (intro w5 hSw; have q0c := hSw.1.cell 0 rfl; go_simp; try with_reducible rfl)
        try simp only [Act.put, List.setIfInBounds_toArray, List.set_cons_zero, List.set_cons_succ]
        change wpAnyH _ _ _ _ _ 3 #[true, true, true, true, false, true, false, false] _ _
        refine wpAnyH_ready (rs := [4]) (by kernel_rfl) (by simp) ?_
        refine AllReadyH.cons rfl (fun K hK => ?_) AllReadyH.nil
        go_simp
        refine (HTX2.out _).mono ?_
        rintro e z9 ⟨rfl, hz9⟩
        go_wp2
        refine hK.out _ _ ⟨hHeld.1.upd hz9 (by simp), hHeld.2.then hz9⟩ (fun hHeld => ?_)
        clear hK K
        try simp only [Act.put, List.setIfInBounds_toArray, List.set_cons_zero, List.set_cons_succ]
        change wpAnyH _ _ _ _ _ 2 #[true, true, true, true, true, true, false, false] _ _
        refine heldTake (i := 6) (d := some 34) (v := ?v6_23) rfl rfl (by kernel_rfl) (by kernel_rfl) (by kernel_rfl) (fun _ _ _ h => h) (by rfl) ?hy6_23 (by assumption) ?r6_23
        case hy6_23 => (intro w hSw; (try dsimp only at hSw); go_simp; try with_reducible rfl)
        try simp only [Act.put, List.setIfInBounds_toArray, List.set_cons_zero, List.set_cons_succ]
        change wpAnyH _ _ _ _ _ 1 #[true, true, true, true, true, true, true, false] _ _
        refine heldTake (i := 7) (d := some 35) (v := ?v7_24) rfl rfl (by kernel_rfl) (by kernel_rfl) (by kernel_rfl) (fun _ _ _ h => h) (by rfl) ?hy7_24 (by assumption) ?r7_24
        case hy7_24 => (intro w hSw; (try dsimp only at hSw); go_simp; try with_reducible rfl)
        try simp only [Act.put, List.setIfInBounds_toArray, List.set_cons_zero, List.set_cons_succ]
        change wpAnyH _ _ _ _ _ 0 #[true, true, true, true, true, true, true, true] _ _
        refine wpAnyH_done (by kernel_rfl) ?_ 0
        go_wp2_with fail
        go_ret2
        exact ⟨by rw [HV.out]; rfl, hHeld.2⟩
end Go.Proofs.YtigjingielnaoaaDoor
