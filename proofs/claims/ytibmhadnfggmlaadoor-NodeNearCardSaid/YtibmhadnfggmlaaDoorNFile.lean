/- Package node: file: its walk. -/
import Derived.Test.YtibmhadnfggmlaaDoorNFine
import Derived.Test.YtibmhadnfggmlaaDoorRPerm
import Derived.Test.YtibmhadnfggmlaaDoorDPar
namespace Go.Proofs.YtibmhadnfggmlaaDoor
set_option linter.unusedVariables false
set_option linter.unusedSimpArgs false
set_option linter.unusedSectionVars false
open Go.RowKit
set_option linter.unusedVariables false
set_option linter.unusedSimpArgs false

theorem foldB_take_lt (base : Nat) (hb : base ≤ 16) (l : List Nat) : numB base l < 1099511627776 := foldB_lt2 base hb (l.take 10) (by rw [List.length_take]; omega)
theorem dosParseP_lt (l : List Nat) : (dosParseP l).1 < 4294967296 := by
  unfold dosParseP
  by_cases h0 : l.length ≠ 19
  · rw [if_pos h0]; decide
  · rw [if_neg h0]
    by_cases h1 : rightT l = false
    · rw [if_pos h1]; decide
    · rw [if_neg h1]
      have := timeT_lt (l := l) (by simpa using h1)
      by_cases h2 : dosTextP (timeT l) = l
      · rw [if_pos h2]; exact this
      · rw [if_neg h2]; decide
set_option maxRecDepth 100000 in
set_option maxHeartbeats 6400000 in
theorem nfile_any (a0 a1 a2 a3 a4 a5 : List Nat) (v : Value) (w : World) (hT : TextsAt w v [a0, a1, a2, a3, a4, a5]) (hx : ∀ a ∈ [a0, a1, a2, a3, a4, a5], a.length ≤ 100000 ∧ ∀ x ∈ a, x < 256) :
    Calls Tryd.prog 62 #[v] w fun e w' => e = .returned (printI 1 ((modeP a1).1 : Nat) (dosParseP (a2 ++ [32] ++ a3)).1 (numB 10 a4 : Nat) (numB 16 a5 % 4294967296)) ∧ Upd [] w w' := by
  obtain ⟨ad, cap, rfl, hcap, hc⟩ := hT
  obtain ⟨g, o, rfl, hg0⟩ := hc 0 (by simp)
  have hcc : ∀ i, (hi : i < [a0, a1, a2, a3, a4, a5].length) → w.cell? ⟨g, o + i, none⟩ = some (.string (strOf ([a0, a1, a2, a3, a4, a5][i]))) := fun i hi => by
    obtain ⟨b, off, e, h⟩ := hc i hi
    cases e
    exact h
  have HG1 := Lib.hid (hcc 1 (by simp))
  have HG2 := Lib.hid (hcc 2 (by simp))
  have HG3 := Lib.hid (hcc 3 (by simp))
  have HG4 := Lib.hid (hcc 4 (by simp))
  have HG5 := Lib.hid (hcc 5 (by simp))
  have HGL : Hid (g < w.heap.size) := Lib.hid (textCell_lt hg0)
  simp only [List.length_cons, List.length_nil] at hcap
  have hl1 := (hx a1 (by simp)).1
  have hl2 := (hx a2 (by simp)).1
  have hl3 := (hx a3 (by simp)).1
  have hl4 := (hx a4 (by simp)).1
  have hl5 := (hx a5 (by simp)).1
  have z : ∀ l : List Nat, (strOf l).size = l.length := size_strOf
  have q1 : bytesOf (strOf a1) = a1 := bytesOf_strOf _ (hx a1 (by simp)).2
  have q4 : bytesOf (strOf a4) = a4 := bytesOf_strOf _ (hx a4 (by simp)).2
  have q5 : bytesOf (strOf a5) = a5 := bytesOf_strOf _ (hx a5 (by simp)).2
  have q23 : bytesOf (strOf (a2 ++ [32] ++ a3)) = a2 ++ [32] ++ a3 := bytesOf_strOf _ (by
    intro x h
    simp only [List.mem_append, List.mem_singleton] at h
    rcases h with (h | h) | h
    · exact (hx a2 (by simp)).2 x h
    · omega
    · exact (hx a3 (by simp)).2 x h)
  have HM := mode14_any (strOf a1)
  have HP := dosParse_any (strOf (a2 ++ [32] ++ a3))
  have HN4 := number_any (strOf a4) 10
  have HN5 := number_any (strOf a5) 16
  rw [q1] at HM
  rw [q23] at HP
  rw [q4] at HN4
  rw [q5] at HN5
  have HM := Lib.hid (fun w => HM w (by rw [z]; omega))
  have HP := Lib.hid (fun w => HP w (by rw [z]; simp; omega))
  have HN4 := Lib.hid (fun w => HN4 w (by rw [z]; omega) (by omega))
  have HN5 := Lib.hid (fun w => HN5 w (by rw [z]; omega) (by omega))
  unfold modeV at HM
  unfold dosParseV at HP
  have n1 : (modeP a1).1 < 512 := by
    unfold modeP
    by_cases h0 : a1.length ≠ 9
    · rw [if_pos h0]; decide
    · rw [if_neg h0]
      by_cases h1 : permTo (bitsM a1) 9 = a1
      · rw [if_pos h1]; exact bitsM_lt 9 a1 (by omega)
      · rw [if_neg h1]; decide
  have n2 := dosParseP_lt (a2 ++ [32] ++ a3)
  have n4 := foldB_take_lt 10 (by omega) a4
  have n5 := foldB_take_lt 16 (by omega) a5
  have HA1 : Hid (∀ w, (Op.stringOp .add (strOf a2) ({ data := #[32] } : ByteArray)).run Tryd.prog w = .ok (.string (strOf (a2 ++ [32]))) w) := Lib.hid (fun w => by
    have e : ({ data := #[32] } : ByteArray) = strOf [32] := rfl
    rw [e, run_string_add_sum _ _ _ (by rw [z, z]; simp; omega), ← strOf_cat])
  have HA2 : Hid (∀ w, (Op.stringOp .add (strOf (a2 ++ [32])) (strOf a3)).run Tryd.prog w = .ok (.string (strOf (a2 ++ [32] ++ a3))) w) := Lib.hid (fun w => by
    rw [run_string_add_sum _ _ _ (by rw [z, z]; simp; omega), ← strOf_cat])
  have hw5 : IntKind.u32.wrap ((numB 16 a5 : Nat) : Int) = ((numB 16 a5 % 4294967296 : Nat) : Int) := by rw [IntKind.wrap_u32]; omega
  simp only [List.getElem_cons_zero, List.getElem_cons_succ] at HG1 HG2 HG3 HG4 HG5
  have HPE : Hid (printI 1 ((modeP a1).1 : Nat) (dosParseP (a2 ++ [32] ++ a3)).1 (numB 10 a4 : Nat) (numB 16 a5 % 4294967296) = .agg #[.int .i64 1, .int .i64 ((modeP a1).1 : Nat), .int .u32 ((dosParseP (a2 ++ [32] ++ a3)).1 : Nat), .int .i64 (numB 10 a4 : Nat), .int .u32 ((numB 16 a5 % 4294967296 : Nat) : Int)]) := Lib.hid rfl
  rw [HPE.out]
  generalize (modeP a1).1 = m at *
  generalize (modeP a1).2 = mb at *
  generalize (dosParseP (a2 ++ [32] ++ a3)).1 = tt at *
  generalize (dosParseP (a2 ++ [32] ++ a3)).2 = tb at *
  generalize hn4 : numB 10 a4 = nn4 at *
  generalize hn5 : numB 16 a5 = nn5 at *
  generalize hr5 : nn5 % 4294967296 = nr5 at *
  generalize strOf (a2 ++ [32] ++ a3) = S23 at *
  generalize strOf (a2 ++ [32]) = S2b at *
  generalize strOf a1 = S1 at *
  generalize strOf a2 = S2 at *
  generalize strOf a3 = S3 at *
  generalize strOf a4 = S4 at *
  generalize strOf a5 = S5 at *
  clear hl1 hl2 hl3 hl4 hl5 z q1 q4 q5 q23 hcc hc hg0 hx HPE hn4 hn5 hr5
  have HB0 := Lib.hid (Blk.new w [.int .i64 0, .int .i64 0, .int .u32 0, .int .i64 0, .int .u32 0] 32)
  have HU0 := Lib.hid ((Upd.refl [] w).alloc (.cells #[.int .i64 0, .int .i64 0, .int .u32 0, .int .i64 0, .int .u32 0] 32))
  go_enter Tryd.func62, Tryd.ntmps62
  go_upto_region 1 with fail
  change Code.wp _ _ _ _ (w.alloc (.cells #[.int .i64 0, .int .i64 0, .int .u32 0, .int .i64 0, .int .u32 0] 32))
  generalize w.alloc (.cells #[.int .i64 0, .int .i64 0, .int .u32 0, .int .i64 0, .int .u32 0] 32) = w0 at *
  obtain ⟨q0, hq0⟩ : ∃ q0, w.heap.size = q0 := ⟨_, rfl⟩
  have HQ := Lib.hid (show w.heap.size ≤ q0 by omega)
  have HGQ : Hid (g < q0) := Lib.hid (by have := HGL.out; omega)
  rw [hq0] at HB0 ⊢
  clear hq0
  have c0 := HB0.out.cell 0 rfl
  have f0 := HB0.out.frz 0
  go_upto_region 2 with fail
  have HB1 := Lib.hid (Blk.set HB0.out 0 (.int .i64 1))
  have HU1 := Lib.hid (Upd.setCell HU0.out (p := ⟨q0, 0, none⟩) (.inr HQ.out) (.int .i64 1))
  clear c0 f0
  change Code.wp _ _ _ _ (w0.setCell ⟨q0, 0, none⟩ (.int .i64 1))
  generalize w0.setCell ⟨q0, 0, none⟩ (.int .i64 1) = w1 at *
  clear HB0 HU0
  have d1 : _ = some (Value.string S1) := (HU1.out.at HGL.out (by simp) (o + 1)).trans HG1.out
  go_wp2_with fail
  refine (HM.out _).mono ?_
  rintro e w2 ⟨rfl, hu2⟩
  have HB2 := Lib.hid (HB1.out.upd hu2 (by simp))
  have HU2 := Lib.hid (HU1.out.then hu2)
  clear HB1 HU1 hu2 d1
  have c1 := HB2.out.cell 1 rfl
  have f1 := HB2.out.frz 1
  go_upto_region 3 with fail
  have HB3 := Lib.hid (Blk.set HB2.out 1 (.int .i64 m))
  have HU3 := Lib.hid (Upd.setCell HU2.out (p := ⟨q0, 1, none⟩) (.inr HQ.out) (.int .i64 m))
  clear c1 f1
  change Code.wp _ _ _ _ (w2.setCell ⟨q0, 1, none⟩ (.int .i64 m))
  generalize w2.setCell ⟨q0, 1, none⟩ (.int .i64 m) = w3 at *
  clear HB2 HU2
  have a1 := HA1.out
  have a2 := HA2.out
  refine wp_region_held_drew (S := fun w' => ∃ x, Blk w' q0 [.int .i64 1, .int .i64 m, x, .int .i64 0, .int .u32 0] 32 ∧ Upd [] w w') (by kernel_rfl) ⟨_, HB3.out, HU3.out.drew⟩ (fun hHeld => ?_)
  change wpAnyH _ _ _ _ _ 14 #[false, false, false, false, false, false, false, false, false, false, false, false, false, false] _ _
  refine heldTake (i := 0) (d := some 13) (v := ?v0_1) rfl rfl (by kernel_rfl) (by kernel_rfl) (by kernel_rfl) (fun _ _ _ h => h) (by rfl) ?hy0_1 (by assumption) ?r0_1
  case hy0_1 => (intro w hSw; (try dsimp only at hSw); go_simp; try with_reducible rfl)
  try simp only [Act.put, List.setIfInBounds_toArray, List.set_cons_zero, List.set_cons_succ]
  change wpAnyH _ _ _ _ _ 13 #[true, false, false, false, false, false, false, false, false, false, false, false, false, false] _ _
  refine heldTake (i := 1) (d := some 14) (v := ?v1_2) rfl rfl (by kernel_rfl) (by kernel_rfl) (by kernel_rfl) (fun _ _ _ h => h) (by rfl) ?hy1_2 (by assumption) ?r1_2
  case hy1_2 => (intro w hSw; (try dsimp only at hSw); go_simp; try with_reducible rfl)
  try simp only [Act.put, List.setIfInBounds_toArray, List.set_cons_zero, List.set_cons_succ]
  change wpAnyH _ _ _ _ _ 12 #[true, true, false, false, false, false, false, false, false, false, false, false, false, false] _ _
  refine heldTake (i := 2) (d := some 15) (v := ?v2_3) rfl rfl (by kernel_rfl) (by kernel_rfl) (by kernel_rfl) (fun _ _ _ h => h) (by rfl) ?hy2_3 (by assumption) ?r2_3
  case hy2_3 => (intro w5 hSw; obtain ⟨x5, hB5, hU5⟩ := hSw; have d5 : _ = some (Value.string S2) := (hU5.at HGL.out (by simp) (o + 2)).trans HG2.out; go_simp; try with_reducible rfl)
  try simp only [Act.put, List.setIfInBounds_toArray, List.set_cons_zero, List.set_cons_succ]
  change wpAnyH _ _ _ _ _ 11 #[true, true, true, false, false, false, false, false, false, false, false, false, false, false] _ _
  refine heldTake (i := 3) (d := some 16) (v := ?v3_4) rfl rfl (by kernel_rfl) (by kernel_rfl) (by kernel_rfl) (fun _ _ _ h => h) (by rfl) ?hy3_4 (by assumption) ?r3_4
  case hy3_4 => (intro w hSw; (try dsimp only at hSw); go_simp; try with_reducible rfl)
  try simp only [Act.put, List.setIfInBounds_toArray, List.set_cons_zero, List.set_cons_succ]
  change wpAnyH _ _ _ _ _ 10 #[true, true, true, true, false, false, false, false, false, false, false, false, false, false] _ _
  refine heldTake (i := 4) (d := some 17) (v := ?v4_5) rfl rfl (by kernel_rfl) (by kernel_rfl) (by kernel_rfl) (fun _ _ _ h => h) (by rfl) ?hy4_5 (by assumption) ?r4_5
  case hy4_5 => (intro w hSw; (try dsimp only at hSw); go_simp; try with_reducible rfl)
  try simp only [Act.put, List.setIfInBounds_toArray, List.set_cons_zero, List.set_cons_succ]
  change wpAnyH _ _ _ _ _ 9 #[true, true, true, true, true, false, false, false, false, false, false, false, false, false] _ _
  refine heldTake (i := 5) (d := some 18) (v := ?v5_6) rfl rfl (by kernel_rfl) (by kernel_rfl) (by kernel_rfl) (fun _ _ _ h => h) (by rfl) ?hy5_6 (by assumption) ?r5_6
  case hy5_6 => (intro w hSw; (try dsimp only at hSw); go_simp; try with_reducible rfl)
  try simp only [Act.put, List.setIfInBounds_toArray, List.set_cons_zero, List.set_cons_succ]
  change wpAnyH _ _ _ _ _ 8 #[true, true, true, true, true, true, false, false, false, false, false, false, false, false] _ _
  refine heldTake (i := 6) (d := some 19) (v := ?v6_7) rfl rfl (by kernel_rfl) (by kernel_rfl) (by kernel_rfl) (fun _ _ _ h => h) (by rfl) ?hy6_7 (by assumption) ?r6_7
  case hy6_7 => (intro w5 hSw; obtain ⟨x5, hB5, hU5⟩ := hSw; have d5 : _ = some (Value.string S3) := (hU5.at HGL.out (by simp) (o + 3)).trans HG3.out; go_simp; try with_reducible rfl)
  try simp only [Act.put, List.setIfInBounds_toArray, List.set_cons_zero, List.set_cons_succ]
  change wpAnyH _ _ _ _ _ 7 #[true, true, true, true, true, true, true, false, false, false, false, false, false, false] _ _
  refine heldTake (i := 7) (d := some 20) (v := ?v7_8) rfl rfl (by kernel_rfl) (by kernel_rfl) (by kernel_rfl) (fun _ _ _ h => h) (by rfl) ?hy7_8 (by assumption) ?r7_8
  case hy7_8 => (intro w hSw; (try dsimp only at hSw); go_simp; try with_reducible rfl)
  try simp only [Act.put, List.setIfInBounds_toArray, List.set_cons_zero, List.set_cons_succ]
  change wpAnyH _ _ _ _ _ 6 #[true, true, true, true, true, true, true, true, false, false, false, false, false, false] _ _
  refine wpAnyH_ready (rs := [8]) (by kernel_rfl) (by simp) ?_
  refine AllReadyH.cons rfl (fun K hK => ?_) AllReadyH.nil
  go_simp
  refine (HP.out _).mono ?_
  rintro e z9 ⟨rfl, hz9⟩
  obtain ⟨x9, hB9, hU9⟩ := hHeld
  go_wp2
  refine hK.out _ _ ⟨x9, hB9.upd hz9 (by simp), hU9.then hz9⟩ (fun hHeld => ?_)
  clear hK K
  try simp only [Act.put, List.setIfInBounds_toArray, List.set_cons_zero, List.set_cons_succ]
  change wpAnyH _ _ _ _ _ 5 #[true, true, true, true, true, true, true, true, true, false, false, false, false, false] _ _
  refine heldTake (i := 9) (d := some 12) (v := ?v9_10) rfl rfl (by kernel_rfl) (by kernel_rfl) (by kernel_rfl) (fun _ _ _ h => h) (by rfl) ?hy9_10 (by assumption) ?r9_10
  case hy9_10 => (intro w hSw; (try dsimp only at hSw); go_simp; try with_reducible rfl)
  try simp only [Act.put, List.setIfInBounds_toArray, List.set_cons_zero, List.set_cons_succ]
  change wpAnyH _ _ _ _ _ 4 #[true, true, true, true, true, true, true, true, true, true, false, false, false, false] _ _
  refine heldTake (i := 10) (d := some 22) (v := ?v10_11) rfl rfl (by kernel_rfl) (by kernel_rfl) (by kernel_rfl) (fun _ _ _ h => h) (by rfl) ?hy10_11 (by assumption) ?r10_11
  case hy10_11 => (intro w hSw; (try dsimp only at hSw); go_simp; try with_reducible rfl)
  try simp only [Act.put, List.setIfInBounds_toArray, List.set_cons_zero, List.set_cons_succ]
  change wpAnyH _ _ _ _ _ 3 #[true, true, true, true, true, true, true, true, true, true, true, false, false, false] _ _
  refine heldTake (i := 11) (d := some 23) (v := ?v11_12) rfl rfl (by kernel_rfl) (by kernel_rfl) (by kernel_rfl) (fun _ _ _ h => h) (by rfl) ?hy11_12 (by assumption) ?r11_12
  case hy11_12 => (intro w hSw; (try dsimp only at hSw); go_simp; try with_reducible rfl)
  try simp only [Act.put, List.setIfInBounds_toArray, List.set_cons_zero, List.set_cons_succ]
  change wpAnyH _ _ _ _ _ 2 #[true, true, true, true, true, true, true, true, true, true, true, true, false, false] _ _
  refine heldTake (i := 12) (d := some 24) (v := ?v12_13) rfl rfl (by kernel_rfl) (by kernel_rfl) (by kernel_rfl) (fun _ _ _ h => h) (by rfl) ?hy12_13 (by assumption) ?r12_13
  case hy12_13 => (intro w hSw; (try dsimp only at hSw); go_simp; try with_reducible rfl)
  try simp only [Act.put, List.setIfInBounds_toArray, List.set_cons_zero, List.set_cons_succ]
  change wpAnyH _ _ _ _ _ 1 #[true, true, true, true, true, true, true, true, true, true, true, true, true, false] _ _
  refine wpAnyH_ready (rs := [13]) (by kernel_rfl) (by simp) ?_
  refine AllReadyH.cons rfl (fun K hK => ?_) AllReadyH.nil
  go_simp
  obtain ⟨x9, hB9, hU9⟩ := hHeld
  have c2 := hB9.cell 2 rfl
  have f2 := hB9.frz 2
  simp only [c2, f2, Bool.false_eq_true, ↓reduceIte]
  have HB5 := Lib.hid (Blk.set hB9 2 (.int .u32 tt))
  have HU5 := Lib.hid (Upd.setCell hU9 (p := ⟨q0, 2, none⟩) (.inr HQ.out) (.int .u32 tt))
  go_wp2
  refine hK.out _ _ ⟨.int .u32 tt, hB9.set 2 (.int .u32 tt), Upd.setCell hU9 (p := ⟨q0, 2, none⟩) (.inr HQ.out) (.int .u32 tt)⟩ (fun hHeld => ?_)
  clear hK K
  try simp only [Act.put, List.setIfInBounds_toArray, List.set_cons_zero, List.set_cons_succ]
  change wpAnyH _ _ _ _ _ 0 #[true, true, true, true, true, true, true, true, true, true, true, true, true, true] _ _
  refine wpAnyH_done (by kernel_rfl) ?_ 0
  clear hHeld c2 f2 hB9 hU9
  generalize z9.setCell ⟨q0, 2, none⟩ (.int .u32 tt) = w4 at *
  clear a1 a2
  have d4 : _ = some (Value.string S4) := (HU5.out.at HGL.out (by simp) (o + 4)).trans HG4.out
  go_wp2_with fail
  refine (HN4.out _).mono ?_
  rintro e w5 ⟨rfl, hu5⟩
  have HB6 := Lib.hid (HB5.out.upd hu5 (by simp))
  have HU6 := Lib.hid (HU5.out.then hu5)
  clear HB5 HU5 hu5 d4
  have c3 := HB6.out.cell 3 rfl
  have f3 := HB6.out.frz 3
  go_upto_region 5 with fail
  have HB7 := Lib.hid (Blk.set HB6.out 3 (.int .i64 nn4))
  have HU7 := Lib.hid (Upd.setCell HU6.out (p := ⟨q0, 3, none⟩) (.inr HQ.out) (.int .i64 nn4))
  clear c3 f3
  generalize w5.setCell ⟨q0, 3, none⟩ (.int .i64 nn4) = w6 at *
  clear HB6 HU6
  have d5 : _ = some (Value.string S5) := (HU7.out.at HGL.out (by simp) (o + 5)).trans HG5.out
  go_wp2_with fail
  refine (HN5.out _).mono ?_
  rintro e w7 ⟨rfl, hu7⟩
  have HB8 := Lib.hid (HB7.out.upd hu7 (by simp))
  have HU8 := Lib.hid (HU7.out.then hu7)
  clear HB7 HU7 hu7 d5
  have c4 := HB8.out.cell 4 rfl
  have f4 := HB8.out.frz 4
  have HW5 := Lib.hid hw5
  go_upto_region 6 with fail
  have HB9 := Lib.hid (Blk.set HB8.out 4 (.int .u32 nr5))
  have HU9 := Lib.hid (Upd.setCell HU8.out (p := ⟨q0, 4, none⟩) (.inr HQ.out) (.int .u32 nr5))
  clear c4 f4
  generalize w7.setCell ⟨q0, 4, none⟩ (.int .u32 nr5) = w8 at *
  clear HB8 HU8
  have hB := HB9.out
  simp only [List.set_cons_zero, List.set_cons_succ] at hB
  have k0 := hB.cell 0 rfl
  have k1 := hB.cell 1 rfl
  have k2 := hB.cell 2 rfl
  have k3 := hB.cell 3 rfl
  have k4 := hB.cell 4 rfl
  have g0 := hB.frz 0
  have g1 := hB.frz 1
  have g2 := hB.frz 2
  have g3 := hB.frz 3
  have g4 := hB.frz 4
  go_wp2
  have hE := ((((hB.set 0 (.int .i64 1)).set 1 (.int .i64 m)).set 2 (.int .u32 tt)).set 3 (.int .i64 nn4)).set 4 (.int .u32 nr5)
  simp only [List.set_cons_zero, List.set_cons_succ] at hE
  refine bodyPost_ret (results_cell_row rfl _ _ q0 32 _ (0, 0) _ rfl hE Tryd.underlying32 rfl infoPr) rfl ⟨rfl, ?_⟩
  exact ((((HU9.out.setCell (.inr HQ.out) _).setCell (.inr HQ.out) _).setCell (.inr HQ.out) _).setCell (.inr HQ.out) _).setCell (.inr HQ.out) _
end Go.Proofs.YtibmhadnfggmlaaDoor
