/- Package dump: Row: its walk. -/
import Derived.Test.YtigjingielnaoaaDoorQAM
import Derived.Test.YtigjingielnaoaaDoorQAO
import Derived.Test.YtigjingielnaoaaDoorRight
import Derived.Test.YtigjingielnaoaaDoorRRight
import Derived.Test.YtigjingielnaoaaDoorDTxu
import Derived.Test.YtigjingielnaoaaDoorQAX
namespace Go.Proofs.YtigjingielnaoaaDoor
set_option linter.unusedVariables false
set_option linter.unusedSimpArgs false
set_option linter.unusedSectionVars false
open Go.RowKit
set_option linter.unusedVariables false
set_option linter.unusedSimpArgs false

/-- The words of a record's row. -/
def rowW (r : RecD) : List (List Nat) := [decL r.pos.toNat, decL r.m.toNat, decL r.l.toNat, decL r.wh.toNat, hexP r.sum 8, permTo r.md.toNat 9, dosTextP r.t, nameP r.k r.p]
/-- The row of a record. -/
def rowP (r : RecD) : List Nat := if recErr r ≠ 0 then [] else joinC 32 (rowW r)
theorem recErr_zero {r : RecD} (h : recErr r = 0) : nameB r = true ∧ laidB r = true ∧ 0 ≤ r.md ∧ r.md ≤ 511 ∧ rtimeB r.k r.t = true := by
  unfold recErr at h
  split at h
  · omega
  · split at h
    · omega
    · split at h
      · omega
      · split at h
        · omega
        · rename_i h1 h2 h3 h4
          exact ⟨by simpa using h1, by simpa using h2, by omega, by omega, by simpa using h4⟩
theorem laidB_bd {r : RecD} (h : laidB r = true) : (r.m = 0 ∨ r.m = 8) ∧ (0 ≤ r.l ∧ r.l < 2147483648) ∧ (0 ≤ r.wh ∧ r.wh < 2147483648) ∧ (0 ≤ r.pos ∧ r.pos < 2147483648) := by
  unfold laidB at h
  split at h
  · cases h
  · rename_i h1
    have e : ∀ n, ¬ sizeB n = false → 0 ≤ n ∧ n < 2147483648 := fun n hn => by
      have : sizeB n = true := by simpa using hn
      unfold sizeB at this
      simpa using this
    refine ⟨by omega, e _ (fun h2 => h1 (.inr (.inl h2))), e _ (fun h2 => h1 (.inr (.inr (.inl h2)))), e _ (fun h2 => h1 (.inr (.inr (.inr h2))))⟩
theorem rowW_lt (r : RecD) (h1 : r.pos < 2147483648) (h2 : r.m < 2147483648) (h3 : r.l < 2147483648) (h4 : r.wh < 2147483648) : ∀ p ∈ rowW r, ∀ x ∈ p, x < 256 := by
  intro p hp x hx
  unfold rowW at hp
  simp only [List.mem_cons, List.not_mem_nil, or_false] at hp
  rcases hp with rfl | rfl | rfl | rfl | rfl | rfl | rfl | rfl
  · have := decL_dig 10 _ (by omega) x hx; omega
  · have := decL_dig 10 _ (by omega) x hx; omega
  · have := decL_dig 10 _ (by omega) x hx; omega
  · have := decL_dig 10 _ (by omega) x hx; omega
  · exact hexP_lt _ x hx
  · exact permTo_lt _ 9 x hx
  · exact dosTextP_lt _ x hx
  · exact nameP_lt _ _ x hx
theorem rowW_tot (r : RecD) (h1 : r.pos < 2147483648) (h2 : r.m < 2147483648) (h3 : r.l < 2147483648) (h4 : r.wh < 2147483648) (hp : r.p.size ≤ 1000) : totC (rowW r) ≤ 2000 := by
  have a1 := decL_len 10 r.pos.toNat (by omega)
  have a2 := decL_len 10 r.m.toNat (by omega)
  have a3 := decL_len 10 r.l.toNat (by omega)
  have a4 := decL_len 10 r.wh.toNat (by omega)
  have a5 := hexP_len 8 r.sum
  have a6 := permTo_len r.md.toNat 9
  have a7 := dosTextP_len r.t
  have a8 := nameP_len r.k r.p
  unfold rowW
  simp only [totC, List.map_cons, List.map_nil, List.sum_cons, List.sum_nil, List.length_cons, List.length_nil]
  omega
set_option maxRecDepth 100000 in
set_option maxHeartbeats 6400000 in
theorem drow_any (r : RecD) (w : World) (hr : r.Fits) : Calls Tryd.prog 9 #[r.v] w fun e w' => e = .returned (.string (strOf (rowP r))) ∧ Upd [] w w' := by
  have HF := Lib.hid (fun w' => lright_any r w' hr)
  by_cases hfb : recErr r = 0
  · have HV := Lib.hid (show rowP r = joinC 32 (rowW r) from if_neg (by rw [hfb]; simp))
    rw [hfb] at HF
    obtain ⟨_, hl, hm1, hm2, htb⟩ := recErr_zero hfb
    obtain ⟨b1, b2, b3, b4⟩ := laidB_bd hl
    have HJ := Lib.hid (fun v w h => dline_any (rowW r) v w h (rowW_lt r b4.2 (by omega) b2.2 b3.2) (by simp [rowW]) (by have := rowW_tot r b4.2 (by omega) b2.2 b3.2 hr.p; omega))
    have HTN := Lib.hid (fun w => textsAt_new w (rowW r) 9)
    have HN := Lib.hid (fun w => name_any r w hr)
    obtain ⟨p, m, sum, l, wh, k, md, t, pos⟩ := r
    dsimp only at b1 b2 b3 b4 hm1 hm2
    obtain ⟨pos, rfl⟩ : ∃ n : Nat, pos = n := ⟨pos.toNat, by omega⟩
    obtain ⟨m, rfl⟩ : ∃ n : Nat, m = n := ⟨m.toNat, by omega⟩
    obtain ⟨l, rfl⟩ : ∃ n : Nat, l = n := ⟨l.toNat, by omega⟩
    obtain ⟨wh, rfl⟩ : ∃ n : Nat, wh = n := ⟨wh.toNat, by omega⟩
    obtain ⟨md, rfl⟩ : ∃ n : Nat, md = n := ⟨md.toNat, by omega⟩
    have HW : Hid (rowW ⟨p, m, sum, l, wh, k, md, t, pos⟩ = [decL pos, decL m, decL l, decL wh, hexP sum 8, permTo md 9, dosTextP t, nameP k p]) := Lib.hid rfl
    generalize joinC 32 (rowW ⟨p, m, sum, l, wh, k, md, t, pos⟩) = TX at *
    rw [HW.out] at HTN HJ
    clear HW
    have hsum := hr.sum
    have ht := hr.t
    dsimp only at hsum ht
    have H1 := Lib.hid (fun w => ddec_any pos w (by omega))
    have H2 := Lib.hid (fun w => ddec_any m w (by omega))
    have H3 := Lib.hid (fun w => ddec_any l w (by omega))
    have H4 := Lib.hid (fun w => ddec_any wh w (by omega))
    have H5 := Lib.hid (fun w => dhex_any sum 8 w hsum (by omega))
    have H6 := Lib.hid (fun w => perm_any md w (by omega))
    have H7 := Lib.hid (fun w => dosText_any t w ht)
    clear hr hl htb b1 b2 b3 b4 hm1 hm2 hsum ht hfb
    unfold RecD.v at HF HN ⊢
    dsimp only at HF HN ⊢
    generalize decL pos = W1 at *
    generalize decL m = W2 at *
    generalize decL l = W3 at *
    generalize decL wh = W4 at *
    generalize hexP sum 8 = W5 at *
    generalize permTo md 9 = W6 at *
    generalize dosTextP t = W7 at *
    generalize nameP k p = W8 at *
    have HB0 := Lib.hid (Blk.new w [.string p, .int .i64 (m : Nat), .int .u32 (sum : Nat), .int .i64 (l : Nat), .int .i64 (wh : Nat), .int .i64 k, .int .i64 (md : Nat), .int .u32 (t : Nat), .int .i64 (pos : Nat)] 24)
    have HU0 := Lib.hid ((Upd.refl [] w).alloc (.cells #[.string p, .int .i64 (m : Nat), .int .u32 (sum : Nat), .int .i64 (l : Nat), .int .i64 (wh : Nat), .int .i64 k, .int .i64 (md : Nat), .int .u32 (t : Nat), .int .i64 (pos : Nat)] 24))
    go_enter Tryd.func9, Tryd.ntmps9
    go_wp2_with fail
    refine (HF.out _).mono ?_
    rintro e w1 ⟨rfl, hu1⟩
    have HB1 := Lib.hid (HB0.out.upd hu1 (by simp))
    have HU1 := Lib.hid (HU0.out.then hu1)
    clear HB0 HU0 hu1
    go_upto_region 3 with fail
    generalize w.heap.size = q0 at *
    refine wp_region_held_drew (S := fun w' => Blk w' q0 [.string p, .int .i64 (m : Nat), .int .u32 (sum : Nat), .int .i64 (l : Nat), .int .i64 (wh : Nat), .int .i64 k, .int .i64 (md : Nat), .int .u32 (t : Nat), .int .i64 (pos : Nat)] 24 ∧ Upd [] w w') (by kernel_rfl) ⟨HB1.out, HU1.out.drew⟩ (fun hHeld => ?_)
    change wpAnyH _ _ _ _ _ 26 #[false, false, false, false, false, false, false, false, false, false, false, false, false, false, false, false, false, false, false, false, false, false, false, false, false, false] _ _
    refine heldTake (i := 0) (d := some 6) (v := ?v0_1) rfl rfl (by kernel_rfl) (by kernel_rfl) (by kernel_rfl) (fun _ _ _ h => h) (by rfl) ?hy0_1 (by assumption) ?r0_1
    case hy0_1 => (intro w hSw; (try dsimp only at hSw); go_simp; try with_reducible rfl)
    try simp only [Act.put, List.setIfInBounds_toArray, List.set_cons_zero, List.set_cons_succ]
    change wpAnyH _ _ _ _ _ 25 #[true, false, false, false, false, false, false, false, false, false, false, false, false, false, false, false, false, false, false, false, false, false, false, false, false, false] _ _
    refine heldTake (i := 1) (d := some 7) (v := ?v1_2) rfl rfl (by kernel_rfl) (by kernel_rfl) (by kernel_rfl) (fun _ _ _ h => h) (by rfl) ?hy1_2 (by assumption) ?r1_2
    case hy1_2 => (intro w5 hSw; have q0c := hSw.1.cell 8 rfl; go_simp; try with_reducible rfl)
    try simp only [Act.put, List.setIfInBounds_toArray, List.set_cons_zero, List.set_cons_succ]
    change wpAnyH _ _ _ _ _ 24 #[true, true, false, false, false, false, false, false, false, false, false, false, false, false, false, false, false, false, false, false, false, false, false, false, false, false] _ _
    refine heldTake (i := 3) (d := some 9) (v := ?v3_3) rfl rfl (by kernel_rfl) (by kernel_rfl) (by kernel_rfl) (fun _ _ _ h => h) (by rfl) ?hy3_3 (by assumption) ?r3_3
    case hy3_3 => (intro w hSw; (try dsimp only at hSw); go_simp; try with_reducible rfl)
    try simp only [Act.put, List.setIfInBounds_toArray, List.set_cons_zero, List.set_cons_succ]
    change wpAnyH _ _ _ _ _ 23 #[true, true, false, true, false, false, false, false, false, false, false, false, false, false, false, false, false, false, false, false, false, false, false, false, false, false] _ _
    refine heldTake (i := 4) (d := some 10) (v := ?v4_4) rfl rfl (by kernel_rfl) (by kernel_rfl) (by kernel_rfl) (fun _ _ _ h => h) (by rfl) ?hy4_4 (by assumption) ?r4_4
    case hy4_4 => (intro w5 hSw; have q0c := hSw.1.cell 1 rfl; go_simp; try with_reducible rfl)
    try simp only [Act.put, List.setIfInBounds_toArray, List.set_cons_zero, List.set_cons_succ]
    change wpAnyH _ _ _ _ _ 22 #[true, true, false, true, true, false, false, false, false, false, false, false, false, false, false, false, false, false, false, false, false, false, false, false, false, false] _ _
    refine heldTake (i := 6) (d := some 12) (v := ?v6_5) rfl rfl (by kernel_rfl) (by kernel_rfl) (by kernel_rfl) (fun _ _ _ h => h) (by rfl) ?hy6_5 (by assumption) ?r6_5
    case hy6_5 => (intro w hSw; (try dsimp only at hSw); go_simp; try with_reducible rfl)
    try simp only [Act.put, List.setIfInBounds_toArray, List.set_cons_zero, List.set_cons_succ]
    change wpAnyH _ _ _ _ _ 21 #[true, true, false, true, true, false, true, false, false, false, false, false, false, false, false, false, false, false, false, false, false, false, false, false, false, false] _ _
    refine heldTake (i := 7) (d := some 13) (v := ?v7_6) rfl rfl (by kernel_rfl) (by kernel_rfl) (by kernel_rfl) (fun _ _ _ h => h) (by rfl) ?hy7_6 (by assumption) ?r7_6
    case hy7_6 => (intro w5 hSw; have q0c := hSw.1.cell 3 rfl; go_simp; try with_reducible rfl)
    try simp only [Act.put, List.setIfInBounds_toArray, List.set_cons_zero, List.set_cons_succ]
    change wpAnyH _ _ _ _ _ 20 #[true, true, false, true, true, false, true, true, false, false, false, false, false, false, false, false, false, false, false, false, false, false, false, false, false, false] _ _
    refine heldTake (i := 9) (d := some 15) (v := ?v9_7) rfl rfl (by kernel_rfl) (by kernel_rfl) (by kernel_rfl) (fun _ _ _ h => h) (by rfl) ?hy9_7 (by assumption) ?r9_7
    case hy9_7 => (intro w hSw; (try dsimp only at hSw); go_simp; try with_reducible rfl)
    try simp only [Act.put, List.setIfInBounds_toArray, List.set_cons_zero, List.set_cons_succ]
    change wpAnyH _ _ _ _ _ 19 #[true, true, false, true, true, false, true, true, false, true, false, false, false, false, false, false, false, false, false, false, false, false, false, false, false, false] _ _
    refine heldTake (i := 10) (d := some 16) (v := ?v10_8) rfl rfl (by kernel_rfl) (by kernel_rfl) (by kernel_rfl) (fun _ _ _ h => h) (by rfl) ?hy10_8 (by assumption) ?r10_8
    case hy10_8 => (intro w5 hSw; have q0c := hSw.1.cell 4 rfl; go_simp; try with_reducible rfl)
    try simp only [Act.put, List.setIfInBounds_toArray, List.set_cons_zero, List.set_cons_succ]
    change wpAnyH _ _ _ _ _ 18 #[true, true, false, true, true, false, true, true, false, true, true, false, false, false, false, false, false, false, false, false, false, false, false, false, false, false] _ _
    refine heldTake (i := 12) (d := some 18) (v := ?v12_9) rfl rfl (by kernel_rfl) (by kernel_rfl) (by kernel_rfl) (fun _ _ _ h => h) (by rfl) ?hy12_9 (by assumption) ?r12_9
    case hy12_9 => (intro w hSw; (try dsimp only at hSw); go_simp; try with_reducible rfl)
    try simp only [Act.put, List.setIfInBounds_toArray, List.set_cons_zero, List.set_cons_succ]
    change wpAnyH _ _ _ _ _ 17 #[true, true, false, true, true, false, true, true, false, true, true, false, true, false, false, false, false, false, false, false, false, false, false, false, false, false] _ _
    refine heldTake (i := 13) (d := some 19) (v := ?v13_10) rfl rfl (by kernel_rfl) (by kernel_rfl) (by kernel_rfl) (fun _ _ _ h => h) (by rfl) ?hy13_10 (by assumption) ?r13_10
    case hy13_10 => (intro w5 hSw; have q0c := hSw.1.cell 2 rfl; go_simp; try with_reducible rfl)
    try simp only [Act.put, List.setIfInBounds_toArray, List.set_cons_zero, List.set_cons_succ]
    change wpAnyH _ _ _ _ _ 16 #[true, true, false, true, true, false, true, true, false, true, true, false, true, true, false, false, false, false, false, false, false, false, false, false, false, false] _ _
    refine heldTake (i := 15) (d := some 21) (v := ?v15_11) rfl rfl (by kernel_rfl) (by kernel_rfl) (by kernel_rfl) (fun _ _ _ h => h) (by rfl) ?hy15_11 (by assumption) ?r15_11
    case hy15_11 => (intro w hSw; (try dsimp only at hSw); go_simp; try with_reducible rfl)
    try simp only [Act.put, List.setIfInBounds_toArray, List.set_cons_zero, List.set_cons_succ]
    change wpAnyH _ _ _ _ _ 15 #[true, true, false, true, true, false, true, true, false, true, true, false, true, true, false, true, false, false, false, false, false, false, false, false, false, false] _ _
    refine heldTake (i := 16) (d := some 22) (v := ?v16_12) rfl rfl (by kernel_rfl) (by kernel_rfl) (by kernel_rfl) (fun _ _ _ h => h) (by rfl) ?hy16_12 (by assumption) ?r16_12
    case hy16_12 => (intro w5 hSw; have q0c := hSw.1.cell 6 rfl; go_simp; try with_reducible rfl)
    try simp only [Act.put, List.setIfInBounds_toArray, List.set_cons_zero, List.set_cons_succ]
    change wpAnyH _ _ _ _ _ 14 #[true, true, false, true, true, false, true, true, false, true, true, false, true, true, false, true, true, false, false, false, false, false, false, false, false, false] _ _
    refine heldTake (i := 18) (d := some 24) (v := ?v18_13) rfl rfl (by kernel_rfl) (by kernel_rfl) (by kernel_rfl) (fun _ _ _ h => h) (by rfl) ?hy18_13 (by assumption) ?r18_13
    case hy18_13 => (intro w hSw; (try dsimp only at hSw); go_simp; try with_reducible rfl)
    try simp only [Act.put, List.setIfInBounds_toArray, List.set_cons_zero, List.set_cons_succ]
    change wpAnyH _ _ _ _ _ 13 #[true, true, false, true, true, false, true, true, false, true, true, false, true, true, false, true, true, false, true, false, false, false, false, false, false, false] _ _
    refine heldTake (i := 19) (d := some 25) (v := ?v19_14) rfl rfl (by kernel_rfl) (by kernel_rfl) (by kernel_rfl) (fun _ _ _ h => h) (by rfl) ?hy19_14 (by assumption) ?r19_14
    case hy19_14 => (intro w5 hSw; have q0c := hSw.1.cell 7 rfl; go_simp; try with_reducible rfl)
    try simp only [Act.put, List.setIfInBounds_toArray, List.set_cons_zero, List.set_cons_succ]
    change wpAnyH _ _ _ _ _ 12 #[true, true, false, true, true, false, true, true, false, true, true, false, true, true, false, true, true, false, true, true, false, false, false, false, false, false] _ _
    refine heldTake (i := 21) (d := some 27) (v := ?v21_15) rfl rfl (by kernel_rfl) (by kernel_rfl) (by kernel_rfl) (fun _ _ _ h => h) (by rfl) ?hy21_15 (by assumption) ?r21_15
    case hy21_15 => (intro w5 hSw; have q0c := hSw.1.cell 0 rfl; have q1c := hSw.1.cell 1 rfl; have q2c := hSw.1.cell 2 rfl; have q3c := hSw.1.cell 3 rfl; have q4c := hSw.1.cell 4 rfl; have q5c := hSw.1.cell 5 rfl; have q6c := hSw.1.cell 6 rfl; have q7c := hSw.1.cell 7 rfl; have q8c := hSw.1.cell 8 rfl; go_simp; try with_reducible rfl)
    try simp only [Act.put, List.setIfInBounds_toArray, List.set_cons_zero, List.set_cons_succ]
    change wpAnyH _ _ _ _ _ 11 #[true, true, false, true, true, false, true, true, false, true, true, false, true, true, false, true, true, false, true, true, false, true, false, false, false, false] _ _
    refine wpAnyH_ready (rs := [2]) (by kernel_rfl) (by simp) ?_
    refine AllReadyH.cons rfl (fun K hK => ?_) AllReadyH.nil
    go_simp
    refine (H1.out _).mono ?_
    rintro e z9 ⟨rfl, hz9⟩
    go_wp2
    refine hK.out _ _ ⟨hHeld.1.upd hz9 (by simp), hHeld.2.then hz9⟩ (fun hHeld => ?_)
    clear hK K
    try simp only [Act.put, List.setIfInBounds_toArray, List.set_cons_zero, List.set_cons_succ]
    change wpAnyH _ _ _ _ _ 10 #[true, true, true, true, true, false, true, true, false, true, true, false, true, true, false, true, true, false, true, true, false, true, false, false, false, false] _ _
    refine wpAnyH_ready (rs := [5]) (by kernel_rfl) (by simp) ?_
    refine AllReadyH.cons rfl (fun K hK => ?_) AllReadyH.nil
    go_simp
    refine (H2.out _).mono ?_
    rintro e z9 ⟨rfl, hz9⟩
    go_wp2
    refine hK.out _ _ ⟨hHeld.1.upd hz9 (by simp), hHeld.2.then hz9⟩ (fun hHeld => ?_)
    clear hK K
    try simp only [Act.put, List.setIfInBounds_toArray, List.set_cons_zero, List.set_cons_succ]
    change wpAnyH _ _ _ _ _ 9 #[true, true, true, true, true, true, true, true, false, true, true, false, true, true, false, true, true, false, true, true, false, true, false, false, false, false] _ _
    refine wpAnyH_ready (rs := [8]) (by kernel_rfl) (by simp) ?_
    refine AllReadyH.cons rfl (fun K hK => ?_) AllReadyH.nil
    go_simp
    refine (H3.out _).mono ?_
    rintro e z9 ⟨rfl, hz9⟩
    go_wp2
    refine hK.out _ _ ⟨hHeld.1.upd hz9 (by simp), hHeld.2.then hz9⟩ (fun hHeld => ?_)
    clear hK K
    try simp only [Act.put, List.setIfInBounds_toArray, List.set_cons_zero, List.set_cons_succ]
    change wpAnyH _ _ _ _ _ 8 #[true, true, true, true, true, true, true, true, true, true, true, false, true, true, false, true, true, false, true, true, false, true, false, false, false, false] _ _
    refine wpAnyH_ready (rs := [11]) (by kernel_rfl) (by simp) ?_
    refine AllReadyH.cons rfl (fun K hK => ?_) AllReadyH.nil
    go_simp
    refine (H4.out _).mono ?_
    rintro e z9 ⟨rfl, hz9⟩
    go_wp2
    refine hK.out _ _ ⟨hHeld.1.upd hz9 (by simp), hHeld.2.then hz9⟩ (fun hHeld => ?_)
    clear hK K
    try simp only [Act.put, List.setIfInBounds_toArray, List.set_cons_zero, List.set_cons_succ]
    change wpAnyH _ _ _ _ _ 7 #[true, true, true, true, true, true, true, true, true, true, true, true, true, true, false, true, true, false, true, true, false, true, false, false, false, false] _ _
    refine wpAnyH_ready (rs := [14]) (by kernel_rfl) (by simp) ?_
    refine AllReadyH.cons rfl (fun K hK => ?_) AllReadyH.nil
    go_simp
    refine (H5.out _).mono ?_
    rintro e z9 ⟨rfl, hz9⟩
    go_wp2
    refine hK.out _ _ ⟨hHeld.1.upd hz9 (by simp), hHeld.2.then hz9⟩ (fun hHeld => ?_)
    clear hK K
    try simp only [Act.put, List.setIfInBounds_toArray, List.set_cons_zero, List.set_cons_succ]
    change wpAnyH _ _ _ _ _ 6 #[true, true, true, true, true, true, true, true, true, true, true, true, true, true, true, true, true, false, true, true, false, true, false, false, false, false] _ _
    refine wpAnyH_ready (rs := [17]) (by kernel_rfl) (by simp) ?_
    refine AllReadyH.cons rfl (fun K hK => ?_) AllReadyH.nil
    go_simp
    refine (H6.out _).mono ?_
    rintro e z9 ⟨rfl, hz9⟩
    go_wp2
    refine hK.out _ _ ⟨hHeld.1.upd hz9 (by simp), hHeld.2.then hz9⟩ (fun hHeld => ?_)
    clear hK K
    try simp only [Act.put, List.setIfInBounds_toArray, List.set_cons_zero, List.set_cons_succ]
    change wpAnyH _ _ _ _ _ 5 #[true, true, true, true, true, true, true, true, true, true, true, true, true, true, true, true, true, true, true, true, false, true, false, false, false, false] _ _
    refine wpAnyH_ready (rs := [20]) (by kernel_rfl) (by simp) ?_
    refine AllReadyH.cons rfl (fun K hK => ?_) AllReadyH.nil
    go_simp
    refine (H7.out _).mono ?_
    rintro e z9 ⟨rfl, hz9⟩
    go_wp2
    refine hK.out _ _ ⟨hHeld.1.upd hz9 (by simp), hHeld.2.then hz9⟩ (fun hHeld => ?_)
    clear hK K
    try simp only [Act.put, List.setIfInBounds_toArray, List.set_cons_zero, List.set_cons_succ]
    change wpAnyH _ _ _ _ _ 4 #[true, true, true, true, true, true, true, true, true, true, true, true, true, true, true, true, true, true, true, true, true, true, false, false, false, false] _ _
    refine wpAnyH_ready (rs := [22]) (by kernel_rfl) (by simp) ?_
    refine AllReadyH.cons rfl (fun K hK => ?_) AllReadyH.nil
    go_simp
    refine (HN.out _).mono ?_
    rintro e z9 ⟨rfl, hz9⟩
    go_wp2
    refine hK.out _ _ ⟨hHeld.1.upd hz9 (by simp), hHeld.2.then hz9⟩ (fun hHeld => ?_)
    clear hK K
    try simp only [Act.put, List.setIfInBounds_toArray, List.set_cons_zero, List.set_cons_succ]
    change wpAnyH _ _ _ _ _ 3 #[true, true, true, true, true, true, true, true, true, true, true, true, true, true, true, true, true, true, true, true, true, true, true, false, false, false] _ _
    refine wpAnyH_ready (rs := [23]) (by kernel_rfl) (by simp) ?_
    refine AllReadyH.cons rfl (fun K hK => ?_) AllReadyH.nil
    go_simp
    have HTZ := Lib.hid (HTN.out z9)
    go_wp2
    refine hK.out _ _ ⟨hHeld.1.alloc _, hHeld.2.alloc _⟩ (fun hHeld => ?_)
    clear hK K
    try simp only [Act.put, List.setIfInBounds_toArray, List.set_cons_zero, List.set_cons_succ]
    change wpAnyH _ _ _ _ _ 2 #[true, true, true, true, true, true, true, true, true, true, true, true, true, true, true, true, true, true, true, true, true, true, true, true, false, false] _ _
    refine wpAnyH_ready (rs := [24]) (by kernel_rfl) (by simp) ?_
    refine AllReadyH.cons rfl (fun K hK => ?_) AllReadyH.nil
    go_simp
    refine (HJ.out _ _ HTZ.out).mono ?_
    rintro e z9 ⟨rfl, hz9⟩
    go_wp2
    refine hK.out _ _ ⟨hHeld.1.upd hz9 (by simp), hHeld.2.then hz9⟩ (fun hHeld => ?_)
    clear hK K
    try simp only [Act.put, List.setIfInBounds_toArray, List.set_cons_zero, List.set_cons_succ]
    change wpAnyH _ _ _ _ _ 1 #[true, true, true, true, true, true, true, true, true, true, true, true, true, true, true, true, true, true, true, true, true, true, true, true, true, false] _ _
    refine heldTake (i := 25) (d := some 2) (v := ?v25_26) rfl rfl (by kernel_rfl) (by kernel_rfl) (by kernel_rfl) (fun _ _ _ h => h) (by rfl) ?hy25_26 (by assumption) ?r25_26
    case hy25_26 => (intro w hSw; (try dsimp only at hSw); go_simp; try with_reducible rfl)
    try simp only [Act.put, List.setIfInBounds_toArray, List.set_cons_zero, List.set_cons_succ]
    change wpAnyH _ _ _ _ _ 0 #[true, true, true, true, true, true, true, true, true, true, true, true, true, true, true, true, true, true, true, true, true, true, true, true, true, true] _ _
    refine wpAnyH_done (by kernel_rfl) ?_ 0
    go_wp2_with fail
    go_ret
    exact ⟨by rw [HV.out]; rfl, hHeld.2⟩
  · have HV : Hid (rowP r = []) := Lib.hid (if_pos hfb)
    have hne : ¬ ((recErr r : Nat) : Int) = 0 := by omega
    clear hfb
    generalize recErr r = EE at *
    generalize rowP r = TX at *
    obtain ⟨p, m, sum, l, wh, k, md, t, pos⟩ := r
    unfold RecD.v at HF ⊢
    dsimp only at HF ⊢
    go_enter Tryd.func9, Tryd.ntmps9
    go_wp2_with fail
    refine (HF.out _).mono ?_
    rintro e w1 ⟨rfl, hu1⟩
    go_wp2
    go_ret
    exact ⟨by rw [HV.out]; rfl, ((Upd.refl _ _).alloc _).then hu1⟩
end Go.Proofs.YtigjingielnaoaaDoor
