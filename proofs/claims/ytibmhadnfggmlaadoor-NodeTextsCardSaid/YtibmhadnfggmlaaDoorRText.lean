/- Package swingleref14: Text: its walk. -/
import Derived.Test.YtibmhadnfggmlaaDoorNText
namespace Go.Proofs.YtibmhadnfggmlaaDoor
set_option linter.unusedVariables false
set_option linter.unusedSimpArgs false
set_option linter.unusedSectionVars false
open Go.RowKit
set_option linter.unusedVariables false
set_option linter.unusedSimpArgs false

theorem joinC5 (a b c d e : List Nat) : joinC 32 [a, b, c, d, e] = a ++ [32] ++ b ++ [32] ++ c ++ [32] ++ d ++ [32] ++ e := by
  simp [joinC]
set_option maxRecDepth 100000 in
set_option maxHeartbeats 6400000 in
theorem rtext14_any (k m : Int) (t : Nat) (s : Int) (c : Nat) (w : World) (ht : t < 4294967296) (hc : c < 4294967296) : Calls Tryd.prog 18 #[printI k m t s c] w fun e w' => e = .returned (.string (strOf (textP k m t s c))) ∧ Upd [] w w' := by
  have HF := Lib.hid (fun w' => rfine_any k m t s c w' ht hc)
  cases hfb : fineB k m t s c with
  | false =>
    have HV : Hid (textP k m t s c = []) := Lib.hid (if_pos hfb)
    rw [hfb] at HF
    clear hfb
    unfold printI at HF ⊢
    go_enter Tryd.func18, Tryd.ntmps18
    go_wp2_with fail
    refine (HF.out _).mono ?_
    rintro e w1 ⟨rfl, hu1⟩
    go_wp2
    go_ret
    exact ⟨by rw [HV.out]; rfl, ((Upd.refl _ _).alloc _).then hu1⟩
  | true =>
    have HV0 : textP k m t s c = if k = 0 then [110, 111, 110, 101] else if k = 2 then [100, 105, 114, 32] ++ permTo m.toNat 9 else joinC 32 (fileW m.toNat t s.toNat c) := if_neg (by rw [hfb]; simp)
    rw [hfb] at HF
    rcases fineB_cases hfb with ⟨rfl, rfl, rfl, rfl, rfl⟩ | ⟨rfl, hm0, hm1, rfl, rfl, rfl⟩ | ⟨rfl, hm0, hm1, htb, hs0, hs1, hsc⟩
    · have HV := Lib.hid (HV0.trans (if_pos rfl))
      clear HV0 hfb
      unfold printI at HF ⊢
      have HB0 := Lib.hid (Blk.new w [.int .i64 0, .int .i64 0, .int .u32 ((0 : Nat) : Int), .int .i64 0, .int .u32 ((0 : Nat) : Int)] 32)
      go_enter Tryd.func18, Tryd.ntmps18
      go_wp2_with fail
      refine (HF.out _).mono ?_
      rintro e w1 ⟨rfl, hu1⟩
      have c0 := (HB0.out.upd hu1 (by simp)).cell 0 rfl
      go_wp2
      go_ret
      exact ⟨by rw [HV.out]; rfl, ((Upd.refl _ _).alloc _).then hu1⟩
    · obtain ⟨m, rfl⟩ : ∃ n : Nat, m = n := ⟨m.toNat, by omega⟩
      have HV := Lib.hid ((HV0.trans (if_neg (by omega))).trans (if_pos rfl))
      clear HV0 hfb
      rw [Int.toNat_natCast] at HV
      have hadd := fun w => addl_row [100, 105, 114, 32] (permTo m 9) (by rw [permTo_len]; simp) w
      have hadd2 : ∀ w : World, (Op.stringOp .add ({ data := #[100, 105, 114, 32] } : ByteArray) (strOf (permTo m 9))).run Tryd.prog w = .ok (.string (strOf ([100, 105, 114, 32] ++ permTo m 9))) w := hadd
      clear hadd
      have HP := Lib.hid (fun w => rperm_any m w (by omega))
      generalize [100, 105, 114, 32] ++ permTo m 9 = TX at *
      unfold printI at HF ⊢
      have HB0 := Lib.hid (Blk.new w [.int .i64 2, .int .i64 (m : Nat), .int .u32 ((0 : Nat) : Int), .int .i64 0, .int .u32 ((0 : Nat) : Int)] 32)
      go_enter Tryd.func18, Tryd.ntmps18
      go_wp2_with fail
      refine (HF.out _).mono ?_
      rintro e w1 ⟨rfl, hu1⟩
      have c0 := (HB0.out.upd hu1 (by simp)).cell 0 rfl
      have c1 := (HB0.out.upd hu1 (by simp)).cell 1 rfl
      go_wp2_with fail
      refine (HP.out _).mono ?_
      rintro e w2 ⟨rfl, hu2⟩
      go_wp2
      go_ret
      exact ⟨by rw [HV.out]; rfl, (((Upd.refl _ _).alloc _).then hu1).then hu2⟩
    · obtain ⟨m, rfl⟩ : ∃ n : Nat, m = n := ⟨m.toNat, by omega⟩
      obtain ⟨s, rfl⟩ : ∃ n : Nat, s = n := ⟨s.toNat, by omega⟩
      have HV := Lib.hid ((HV0.trans (if_neg (by omega))).trans (if_neg (by omega)))
      clear HV0 hfb
      rw [Int.toNat_natCast, Int.toNat_natCast] at HV
      have l1 := permTo_len m 9
      have l2 := dosTextP_len t
      have l3 := decL_len 6 s (by omega)
      have l4 := hexP_len 8 c
      have HFW : Hid (joinC 32 (fileW m t s c) = [102, 105, 108, 101, 32] ++ permTo m 9 ++ [32] ++ dosTextP t ++ [32] ++ decL s ++ [32] ++ hexP c 8) := Lib.hid (by unfold fileW; rw [joinC5]; rfl)
      rw [HFW.out] at HV
      clear HFW
      have HP := Lib.hid (fun w => rperm_any m w (by omega))
      have HS := Lib.hid (fun w => rsplit_any t w ht)
      obtain ⟨b1, b2, b3, b4, b5, b6⟩ := parts_bd t
      have HD := Lib.hid (fun w => rText_any (yN t) (moN t) (dN t) (hN t) (miN t) (sN t) w b1 (by unfold yN; omega) b2 b3 b4 b5 b6)
      have HTX : Hid (dosTextP t = clockP (yN t) (moN t) (dN t) (hN t) (miN t) (sN t)) := Lib.hid (if_pos htb)
      rw [← HTX.out, ← partsL_eq] at HD
      clear HTX b1 b2 b3 b4 b5 b6
      have HC := Lib.hid (fun w => rdec_any s w (by omega))
      have HX := Lib.hid (fun w => rhex_any c w hc)
      generalize permTo m 9 = W1 at *
      generalize dosTextP t = W2 at *
      generalize decL s = W3 at *
      generalize hexP c 8 = W4 at *
      generalize partsL t = PL at *
      have z1 := fun w => addl_row [102, 105, 108, 101, 32] W1 (by simp; omega) w
      have z2 := fun w => addl_row ([102, 105, 108, 101, 32] ++ W1) [32] (by simp; omega) w
      have z3 := fun w => addl_row ([102, 105, 108, 101, 32] ++ W1 ++ [32]) W2 (by simp; omega) w
      have z4 := fun w => addl_row ([102, 105, 108, 101, 32] ++ W1 ++ [32] ++ W2) [32] (by simp; omega) w
      have z5 := fun w => addl_row ([102, 105, 108, 101, 32] ++ W1 ++ [32] ++ W2 ++ [32]) W3 (by simp; omega) w
      have z6 := fun w => addl_row ([102, 105, 108, 101, 32] ++ W1 ++ [32] ++ W2 ++ [32] ++ W3) [32] (by simp; omega) w
      have z7 := fun w => addl_row ([102, 105, 108, 101, 32] ++ W1 ++ [32] ++ W2 ++ [32] ++ W3 ++ [32]) W4 (by simp; omega) w
      have y1 : strOf [102, 105, 108, 101, 32] = ({ data := #[102, 105, 108, 101, 32] } : ByteArray) := rfl
      have y2 : strOf [32] = ({ data := #[32] } : ByteArray) := rfl
      rw [y1] at z1
      rw [y2] at z2 z4 z6
      clear y1 y2 l1 l2 l3 l4
      generalize [102, 105, 108, 101, 32] ++ W1 = X1 at *
      generalize X1 ++ [32] = X2 at *
      generalize X2 ++ W2 = X3 at *
      generalize X3 ++ [32] = X4 at *
      generalize X4 ++ W3 = X5 at *
      generalize X5 ++ [32] = X6 at *
      generalize X6 ++ W4 = X7 at *
      unfold printI at HF ⊢
      have HB0 := Lib.hid (Blk.new w [.int .i64 1, .int .i64 (m : Nat), .int .u32 (t : Nat), .int .i64 (s : Nat), .int .u32 (c : Nat)] 32)
      have HU0 := Lib.hid ((Upd.refl [] w).alloc (.cells #[.int .i64 1, .int .i64 (m : Nat), .int .u32 (t : Nat), .int .i64 (s : Nat), .int .u32 (c : Nat)] 32))
      go_enter Tryd.func18, Tryd.ntmps18
      go_wp2_with fail
      refine (HF.out _).mono ?_
      rintro e w1 ⟨rfl, hu1⟩
      have HB1 := Lib.hid (HB0.out.upd hu1 (by simp))
      have HU1 := Lib.hid (HU0.out.then hu1)
      clear HB0 HU0 hu1
      have c0 := HB1.out.cell 0 rfl
      go_wp2_with fail
      clear c0
      generalize w.heap.size = q0 at *
      refine wp_region_held_drew (S := fun w' => Blk w' q0 [.int .i64 1, .int .i64 (m : Nat), .int .u32 (t : Nat), .int .i64 (s : Nat), .int .u32 (c : Nat)] 32 ∧ Upd [] w w') (by kernel_rfl) ⟨HB1.out, HU1.out.drew⟩ (fun hHeld => ?_)
      change wpAnyH _ _ _ _ _ 21 #[false, false, false, false, false, false, false, false, false, false, false, false, false, false, false, false, false, false, false, false, false] _ _
      refine heldTake (i := 0) (d := some 16) (v := ?v0_16) rfl rfl (by kernel_rfl) (by kernel_rfl) (by kernel_rfl) (fun _ _ _ h => h) (by rfl) ?hy0_16 (by assumption) ?r0_16
      case hy0_16 => (intro w hSw; (try dsimp only at hSw); go_simp; try with_reducible rfl)
      try simp only [Act.put, List.setIfInBounds_toArray, List.set_cons_zero, List.set_cons_succ]
      change wpAnyH _ _ _ _ _ 20 #[true, false, false, false, false, false, false, false, false, false, false, false, false, false, false, false, false, false, false, false, false] _ _
      refine heldTake (i := 1) (d := some 17) (v := ?v1_17) rfl rfl (by kernel_rfl) (by kernel_rfl) (by kernel_rfl) (fun _ _ _ h => h) (by rfl) ?hy1_17 (by assumption) ?r1_17
      case hy1_17 => (intro w5 hSw; have q0c := hSw.1.cell 1 rfl; go_simp; try with_reducible rfl)
      try simp only [Act.put, List.setIfInBounds_toArray, List.set_cons_zero, List.set_cons_succ]
      change wpAnyH _ _ _ _ _ 19 #[true, true, false, false, false, false, false, false, false, false, false, false, false, false, false, false, false, false, false, false, false] _ _
      refine heldTake (i := 5) (d := some 21) (v := ?v5_18) rfl rfl (by kernel_rfl) (by kernel_rfl) (by kernel_rfl) (fun _ _ _ h => h) (by rfl) ?hy5_18 (by assumption) ?r5_18
      case hy5_18 => (intro w hSw; (try dsimp only at hSw); go_simp; try with_reducible rfl)
      try simp only [Act.put, List.setIfInBounds_toArray, List.set_cons_zero, List.set_cons_succ]
      change wpAnyH _ _ _ _ _ 18 #[true, true, false, false, false, true, false, false, false, false, false, false, false, false, false, false, false, false, false, false, false] _ _
      refine heldTake (i := 6) (d := some 22) (v := ?v6_19) rfl rfl (by kernel_rfl) (by kernel_rfl) (by kernel_rfl) (fun _ _ _ h => h) (by rfl) ?hy6_19 (by assumption) ?r6_19
      case hy6_19 => (intro w5 hSw; have q0c := hSw.1.cell 2 rfl; go_simp; try with_reducible rfl)
      try simp only [Act.put, List.setIfInBounds_toArray, List.set_cons_zero, List.set_cons_succ]
      change wpAnyH _ _ _ _ _ 17 #[true, true, false, false, false, true, true, false, false, false, false, false, false, false, false, false, false, false, false, false, false] _ _
      refine heldTake (i := 11) (d := some 27) (v := ?v11_20) rfl rfl (by kernel_rfl) (by kernel_rfl) (by kernel_rfl) (fun _ _ _ h => h) (by rfl) ?hy11_20 (by assumption) ?r11_20
      case hy11_20 => (intro w hSw; (try dsimp only at hSw); go_simp; try with_reducible rfl)
      try simp only [Act.put, List.setIfInBounds_toArray, List.set_cons_zero, List.set_cons_succ]
      change wpAnyH _ _ _ _ _ 16 #[true, true, false, false, false, true, true, false, false, false, false, true, false, false, false, false, false, false, false, false, false] _ _
      refine heldTake (i := 12) (d := some 28) (v := ?v12_21) rfl rfl (by kernel_rfl) (by kernel_rfl) (by kernel_rfl) (fun _ _ _ h => h) (by rfl) ?hy12_21 (by assumption) ?r12_21
      case hy12_21 => (intro w5 hSw; have q0c := hSw.1.cell 3 rfl; go_simp; try with_reducible rfl)
      try simp only [Act.put, List.setIfInBounds_toArray, List.set_cons_zero, List.set_cons_succ]
      change wpAnyH _ _ _ _ _ 15 #[true, true, false, false, false, true, true, false, false, false, false, true, true, false, false, false, false, false, false, false, false] _ _
      refine heldTake (i := 16) (d := some 32) (v := ?v16_22) rfl rfl (by kernel_rfl) (by kernel_rfl) (by kernel_rfl) (fun _ _ _ h => h) (by rfl) ?hy16_22 (by assumption) ?r16_22
      case hy16_22 => (intro w hSw; (try dsimp only at hSw); go_simp; try with_reducible rfl)
      try simp only [Act.put, List.setIfInBounds_toArray, List.set_cons_zero, List.set_cons_succ]
      change wpAnyH _ _ _ _ _ 14 #[true, true, false, false, false, true, true, false, false, false, false, true, true, false, false, false, true, false, false, false, false] _ _
      refine heldTake (i := 17) (d := some 33) (v := ?v17_23) rfl rfl (by kernel_rfl) (by kernel_rfl) (by kernel_rfl) (fun _ _ _ h => h) (by rfl) ?hy17_23 (by assumption) ?r17_23
      case hy17_23 => (intro w5 hSw; have q0c := hSw.1.cell 4 rfl; go_simp; try with_reducible rfl)
      try simp only [Act.put, List.setIfInBounds_toArray, List.set_cons_zero, List.set_cons_succ]
      change wpAnyH _ _ _ _ _ 13 #[true, true, false, false, false, true, true, false, false, false, false, true, true, false, false, false, true, true, false, false, false] _ _
      refine wpAnyH_ready (rs := [2]) (by kernel_rfl) (by simp) ?_
      refine AllReadyH.cons rfl (fun K hK => ?_) AllReadyH.nil
      go_simp
      refine (HP.out _).mono ?_
      rintro e z9 ⟨rfl, hz9⟩
      go_wp2
      refine hK.out _ _ ⟨hHeld.1.upd hz9 (by simp), hHeld.2.then hz9⟩ (fun hHeld => ?_)
      clear hK K
      try simp only [Act.put, List.setIfInBounds_toArray, List.set_cons_zero, List.set_cons_succ]
      change wpAnyH _ _ _ _ _ 12 #[true, true, true, false, false, true, true, false, false, false, false, true, true, false, false, false, true, true, false, false, false] _ _
      refine heldTake (i := 3) (d := some 19) (v := ?v3_25) rfl rfl (by kernel_rfl) (by kernel_rfl) (by kernel_rfl) (fun _ _ _ h => h) (by rfl) ?hy3_25 (by assumption) ?r3_25
      case hy3_25 => (intro w hSw; (try dsimp only at hSw); go_simp; try with_reducible rfl)
      try simp only [Act.put, List.setIfInBounds_toArray, List.set_cons_zero, List.set_cons_succ]
      change wpAnyH _ _ _ _ _ 11 #[true, true, true, true, false, true, true, false, false, false, false, true, true, false, false, false, true, true, false, false, false] _ _
      refine heldTake (i := 4) (d := some 20) (v := ?v4_26) rfl rfl (by kernel_rfl) (by kernel_rfl) (by kernel_rfl) (fun _ _ _ h => h) (by rfl) ?hy4_26 (by assumption) ?r4_26
      case hy4_26 => (intro w hSw; (try dsimp only at hSw); go_simp; try with_reducible rfl)
      try simp only [Act.put, List.setIfInBounds_toArray, List.set_cons_zero, List.set_cons_succ]
      change wpAnyH _ _ _ _ _ 10 #[true, true, true, true, true, true, true, false, false, false, false, true, true, false, false, false, true, true, false, false, false] _ _
      refine wpAnyH_ready (rs := [7]) (by kernel_rfl) (by simp) ?_
      refine AllReadyH.cons rfl (fun K hK => ?_) AllReadyH.nil
      go_simp
      refine (HS.out _).mono ?_
      rintro e z9 ⟨rfl, hz9⟩
      go_wp2
      refine hK.out _ _ ⟨hHeld.1.upd hz9 (by simp), hHeld.2.then hz9⟩ (fun hHeld => ?_)
      clear hK K
      try simp only [Act.put, List.setIfInBounds_toArray, List.set_cons_zero, List.set_cons_succ]
      change wpAnyH _ _ _ _ _ 9 #[true, true, true, true, true, true, true, true, false, false, false, true, true, false, false, false, true, true, false, false, false] _ _
      refine wpAnyH_ready (rs := [8]) (by kernel_rfl) (by simp) ?_
      refine AllReadyH.cons rfl (fun K hK => ?_) AllReadyH.nil
      go_simp
      refine (HD.out _).mono ?_
      rintro e z9 ⟨rfl, hz9⟩
      go_wp2
      refine hK.out _ _ ⟨hHeld.1.upd hz9 (by simp), hHeld.2.then hz9⟩ (fun hHeld => ?_)
      clear hK K
      try simp only [Act.put, List.setIfInBounds_toArray, List.set_cons_zero, List.set_cons_succ]
      change wpAnyH _ _ _ _ _ 8 #[true, true, true, true, true, true, true, true, true, false, false, true, true, false, false, false, true, true, false, false, false] _ _
      refine heldTake (i := 9) (d := some 25) (v := ?v9_29) rfl rfl (by kernel_rfl) (by kernel_rfl) (by kernel_rfl) (fun _ _ _ h => h) (by rfl) ?hy9_29 (by assumption) ?r9_29
      case hy9_29 => (intro w hSw; (try dsimp only at hSw); go_simp; try with_reducible rfl)
      try simp only [Act.put, List.setIfInBounds_toArray, List.set_cons_zero, List.set_cons_succ]
      change wpAnyH _ _ _ _ _ 7 #[true, true, true, true, true, true, true, true, true, true, false, true, true, false, false, false, true, true, false, false, false] _ _
      refine heldTake (i := 10) (d := some 26) (v := ?v10_30) rfl rfl (by kernel_rfl) (by kernel_rfl) (by kernel_rfl) (fun _ _ _ h => h) (by rfl) ?hy10_30 (by assumption) ?r10_30
      case hy10_30 => (intro w hSw; (try dsimp only at hSw); go_simp; try with_reducible rfl)
      try simp only [Act.put, List.setIfInBounds_toArray, List.set_cons_zero, List.set_cons_succ]
      change wpAnyH _ _ _ _ _ 6 #[true, true, true, true, true, true, true, true, true, true, true, true, true, false, false, false, true, true, false, false, false] _ _
      refine wpAnyH_ready (rs := [13]) (by kernel_rfl) (by simp) ?_
      refine AllReadyH.cons rfl (fun K hK => ?_) AllReadyH.nil
      go_simp
      refine (HC.out _).mono ?_
      rintro e z9 ⟨rfl, hz9⟩
      go_wp2
      refine hK.out _ _ ⟨hHeld.1.upd hz9 (by simp), hHeld.2.then hz9⟩ (fun hHeld => ?_)
      clear hK K
      try simp only [Act.put, List.setIfInBounds_toArray, List.set_cons_zero, List.set_cons_succ]
      change wpAnyH _ _ _ _ _ 5 #[true, true, true, true, true, true, true, true, true, true, true, true, true, true, false, false, true, true, false, false, false] _ _
      refine heldTake (i := 14) (d := some 30) (v := ?v14_32) rfl rfl (by kernel_rfl) (by kernel_rfl) (by kernel_rfl) (fun _ _ _ h => h) (by rfl) ?hy14_32 (by assumption) ?r14_32
      case hy14_32 => (intro w hSw; (try dsimp only at hSw); go_simp; try with_reducible rfl)
      try simp only [Act.put, List.setIfInBounds_toArray, List.set_cons_zero, List.set_cons_succ]
      change wpAnyH _ _ _ _ _ 4 #[true, true, true, true, true, true, true, true, true, true, true, true, true, true, true, false, true, true, false, false, false] _ _
      refine heldTake (i := 15) (d := some 31) (v := ?v15_33) rfl rfl (by kernel_rfl) (by kernel_rfl) (by kernel_rfl) (fun _ _ _ h => h) (by rfl) ?hy15_33 (by assumption) ?r15_33
      case hy15_33 => (intro w hSw; (try dsimp only at hSw); go_simp; try with_reducible rfl)
      try simp only [Act.put, List.setIfInBounds_toArray, List.set_cons_zero, List.set_cons_succ]
      change wpAnyH _ _ _ _ _ 3 #[true, true, true, true, true, true, true, true, true, true, true, true, true, true, true, true, true, true, false, false, false] _ _
      refine wpAnyH_ready (rs := [18]) (by kernel_rfl) (by simp) ?_
      refine AllReadyH.cons rfl (fun K hK => ?_) AllReadyH.nil
      go_simp
      refine (HX.out _).mono ?_
      rintro e z9 ⟨rfl, hz9⟩
      go_wp2
      refine hK.out _ _ ⟨hHeld.1.upd hz9 (by simp), hHeld.2.then hz9⟩ (fun hHeld => ?_)
      clear hK K
      try simp only [Act.put, List.setIfInBounds_toArray, List.set_cons_zero, List.set_cons_succ]
      change wpAnyH _ _ _ _ _ 2 #[true, true, true, true, true, true, true, true, true, true, true, true, true, true, true, true, true, true, true, false, false] _ _
      refine heldTake (i := 19) (d := some 35) (v := ?v19_35) rfl rfl (by kernel_rfl) (by kernel_rfl) (by kernel_rfl) (fun _ _ _ h => h) (by rfl) ?hy19_35 (by assumption) ?r19_35
      case hy19_35 => (intro w hSw; (try dsimp only at hSw); go_simp; try with_reducible rfl)
      try simp only [Act.put, List.setIfInBounds_toArray, List.set_cons_zero, List.set_cons_succ]
      change wpAnyH _ _ _ _ _ 1 #[true, true, true, true, true, true, true, true, true, true, true, true, true, true, true, true, true, true, true, true, false] _ _
      refine heldTake (i := 20) (d := some 2) (v := ?v20_36) rfl rfl (by kernel_rfl) (by kernel_rfl) (by kernel_rfl) (fun _ _ _ h => h) (by rfl) ?hy20_36 (by assumption) ?r20_36
      case hy20_36 => (intro w hSw; (try dsimp only at hSw); go_simp; try with_reducible rfl)
      try simp only [Act.put, List.setIfInBounds_toArray, List.set_cons_zero, List.set_cons_succ]
      change wpAnyH _ _ _ _ _ 0 #[true, true, true, true, true, true, true, true, true, true, true, true, true, true, true, true, true, true, true, true, true] _ _
      refine wpAnyH_done (by kernel_rfl) ?_ 0
      go_wp2_with fail
      go_ret
      exact ⟨by rw [HV.out]; rfl, hHeld.2⟩
end Go.Proofs.YtibmhadnfggmlaaDoor
