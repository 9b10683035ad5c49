/- Package swingleref35: Text: its walk. -/
import Derived.Test.YtigjingielnaoaaGreatDoorQAP
import Derived.Test.YtigjingielnaoaaGreatDoorQBD
namespace Go.Proofs.YtigjingielnaoaaGreatDoor
set_option linter.unusedVariables false
set_option linter.unusedSimpArgs false
set_option linter.unusedSectionVars false
open Go.RowKit
set_option linter.unusedVariables false
set_option linter.unusedSimpArgs false

theorem addl_row2 (L M : List Nat) (hL : L.length + M.length ≤ 100000) (w : World) : (Op.stringOp .add (strOf L) (strOf M)).run Tryz.prog w = .ok (.string (strOf (L ++ M))) w := by
  rw [run_string_add_sum _ _ _ (by rw [size_strOf, size_strOf]; omega), ← strOf_cat]
theorem hexP8_cut (b : Nat) (h : b < 256) : (strOf (hexP b 8)).extract 6 8 = strOf [hexd (b / 16), hexd (b % 16)] := by
  have : ∀ b : Fin 256, (strOf (hexP b 8)).extract 6 8 = strOf [hexd (b / 16), hexd (b % 16)] := by decide +kernel
  exact this ⟨b, h⟩
set_option maxRecDepth 100000 in
set_option maxHeartbeats 6400000 in
theorem rtext35_any (k m : Int) (t : Nat) (D : ByteArray) (w : World) (ht : t < 4294967296) (hD : D.size ≤ 1000) : Calls Tryz.prog 24 #[nodeV k m t D] w fun e w' => e = .returned (.string (strOf (NodN.mk k m t D).text)) ∧ Upd [] w w' := by
  have HF := Lib.hid (fun w' => rnodeRight_any k m t D w' ht (by omega))
  by_cases hfb : nodeErr k m t D = 0
  · have HV0 : (NodN.mk k m t D).text = if k = 0 then [110, 111, 110, 101] else if k = 2 then [100, 105, 114, 32] ++ permTo m.toNat 9 else joinC 32 (fileW4 ⟨k, m, t, D⟩) := if_neg (by show ¬ nodeErr k m t D ≠ 0; rw [hfb]; simp)
    rw [hfb] at HF
    rcases nodeErr_zero hfb with ⟨rfl, rfl, rfl, hDe⟩ | ⟨rfl, hm0, hm1, rfl, hDe⟩ | ⟨rfl, hm0, hm1, htb, hDs⟩
    · have HV := Lib.hid (HV0.trans (if_pos rfl))
      clear HV0 hfb hDe
      unfold nodeV at HF ⊢
      have HB0 := Lib.hid (Blk.new w [.int .i64 0, .int .i64 0, .int .u32 ((0 : Nat) : Int), .string D] 24)
      go_enter Tryz.func24, Tryz.ntmps24
      go_wp2_with fail
      refine (HF.out _).mono ?_
      rintro e w1 ⟨rfl, hu1⟩
      have c0 := (HB0.out.upd hu1 (by simp)).cell 0 rfl
      go_wp2
      go_ret
      exact ⟨by rw [HV.out]; rfl, ((Upd.refl _ _).alloc _).then hu1⟩
    · obtain ⟨m, rfl⟩ : ∃ n : Nat, m = n := ⟨m.toNat, by omega⟩
      have HV := Lib.hid ((HV0.trans (if_neg (by omega))).trans (if_pos rfl))
      clear HV0 hfb hDe
      rw [Int.toNat_natCast] at HV
      have hadd := fun w => addl_row [100, 105, 114, 32] (permTo m 9) (by rw [permTo_len]; simp) w
      have hadd2 : ∀ w : World, (Op.stringOp .add ({ data := #[100, 105, 114, 32] } : ByteArray) (strOf (permTo m 9))).run Tryz.prog w = .ok (.string (strOf ([100, 105, 114, 32] ++ permTo m 9))) w := hadd
      clear hadd
      have HP := Lib.hid (fun w => rperm_any m w (by omega))
      generalize [100, 105, 114, 32] ++ permTo m 9 = TX at *
      unfold nodeV at HF ⊢
      have HB0 := Lib.hid (Blk.new w [.int .i64 2, .int .i64 (m : Nat), .int .u32 ((0 : Nat) : Int), .string D] 24)
      go_enter Tryz.func24, Tryz.ntmps24
      go_wp2_with fail
      refine (HF.out _).mono ?_
      rintro e w1 ⟨rfl, hu1⟩
      have c0 := (HB0.out.upd hu1 (by simp)).cell 0 rfl
      have c1 := (HB0.out.upd hu1 (by simp)).cell 1 rfl
      go_wp2_with fail
      refine (HP.out _).mono ?_
      rintro e w2 ⟨rfl, hu2⟩
      go_wp2
      go_ret
      exact ⟨by rw [HV.out]; rfl, (((Upd.refl _ _).alloc _).then hu1).then hu2⟩
    · obtain ⟨m, rfl⟩ : ∃ n : Nat, m = n := ⟨m.toNat, by omega⟩
      have HV := Lib.hid ((HV0.trans (if_neg (by omega))).trans (if_neg (by omega)))
      clear HV0 hfb
      have l1 := permTo_len m 9
      have l2 := dosTextP_len t
      have HFW : Hid (joinC 32 (fileW4 ⟨1, m, t, D⟩) = [102, 105, 108, 101, 32] ++ permTo m 9 ++ [32] ++ dosTextP t ++ [32] ++ hexT (bytesOf D)) := Lib.hid (by
        show joinC 32 [[102, 105, 108, 101], permTo m 9, dosTextP t, hexT (bytesOf D)] = _
        simp [joinC])
      rw [HFW.out] at HV
      clear HFW
      have HP := Lib.hid (fun w => rperm_any m w (by omega))
      have HS := Lib.hid (fun w => rsplit_any t w ht)
      obtain ⟨b1, b2, b3, b4, b5, b6⟩ := parts_bd t
      have HD := Lib.hid (fun w => rText_any (yN t) (moN t) (dN t) (hN t) (miN t) (sN t) w b1 (by unfold yN; omega) b2 b3 b4 b5 b6)
      have HTX : Hid (dosTextP t = clockP (yN t) (moN t) (dN t) (hN t) (miN t) (sN t)) := Lib.hid (if_pos htb)
      rw [← HTX.out, ← partsL_eq] at HD
      clear HTX b1 b2 b3 b4 b5 b6
      generalize permTo m 9 = W1 at *
      generalize dosTextP t = W2 at *
      generalize partsL t = PL at *
      have z1 := fun w => addl_row2 [102, 105, 108, 101, 32] W1 (by simp; omega) w
      have z2 := fun w => addl_row2 ([102, 105, 108, 101, 32] ++ W1) [32] (by simp; omega) w
      have z3 := fun w => addl_row2 ([102, 105, 108, 101, 32] ++ W1 ++ [32]) W2 (by simp; omega) w
      have z4 := fun w => addl_row2 ([102, 105, 108, 101, 32] ++ W1 ++ [32] ++ W2) [32] (by simp; omega) w
      have hXl : ([102, 105, 108, 101, 32] ++ W1 ++ [32] ++ W2 ++ [32] : List Nat).length ≤ 100 := by simp; omega
      have y1 : strOf [102, 105, 108, 101, 32] = ({ data := #[102, 105, 108, 101, 32] } : ByteArray) := rfl
      have y2 : strOf [32] = ({ data := #[32] } : ByteArray) := rfl
      rw [y1] at z1
      rw [y2] at z2 z4
      clear y1 y2 l1 l2
      generalize [102, 105, 108, 101, 32] ++ W1 = X1 at *
      generalize X1 ++ [32] = X2 at *
      generalize X2 ++ W2 = X3 at *
      generalize X3 ++ [32] = X4 at *
      unfold nodeV at HF ⊢
      have HB0 := Lib.hid (Blk.new w [.int .i64 1, .int .i64 (m : Nat), .int .u32 (t : Nat), .string D] 24)
      have HU0 := Lib.hid ((Upd.refl [] w).alloc (.cells #[.int .i64 1, .int .i64 (m : Nat), .int .u32 (t : Nat), .string D] 24))
      go_enter Tryz.func24, Tryz.ntmps24
      go_wp2_with fail
      refine (HF.out _).mono ?_
      rintro e w1 ⟨rfl, hu1⟩
      have HB1 := Lib.hid (HB0.out.upd hu1 (by simp))
      have HU1 := Lib.hid (HU0.out.then hu1)
      clear HB0 HU0 hu1
      have c0 := HB1.out.cell 0 rfl
      go_wp2_with fail
      clear c0
      generalize w.heap.size = q0 at *
      refine wp_region_held_drew (S := fun w' => Blk w' q0 [.int .i64 1, .int .i64 (m : Nat), .int .u32 (t : Nat), .string D] 24 ∧ Upd [] w w') (by kernel_rfl) ⟨HB1.out, HU1.out.drew⟩ (fun hHeld => ?_)
      change wpAnyH _ _ _ _ _ 12 #[false, false, false, false, false, false, false, false, false, false, false, false] _ _
      refine heldTake (i := 0) (d := some 19) (v := ?v0_1) rfl rfl (by kernel_rfl) (by kernel_rfl) (by kernel_rfl) (fun _ _ _ h => h) (by rfl) ?hy0_1 (by assumption) ?r0_1
      case hy0_1 => (intro w hSw; (try dsimp only at hSw); go_simp; try with_reducible rfl)
      try simp only [Act.put, List.setIfInBounds_toArray, List.set_cons_zero, List.set_cons_succ]
      change wpAnyH _ _ _ _ _ 11 #[true, false, false, false, false, false, false, false, false, false, false, false] _ _
      refine heldTake (i := 1) (d := some 20) (v := ?v1_2) rfl rfl (by kernel_rfl) (by kernel_rfl) (by kernel_rfl) (fun _ _ _ h => h) (by rfl) ?hy1_2 (by assumption) ?r1_2
      case hy1_2 => (intro w5 hSw; have q0c := hSw.1.cell 1 rfl; go_simp; try with_reducible rfl)
      try simp only [Act.put, List.setIfInBounds_toArray, List.set_cons_zero, List.set_cons_succ]
      change wpAnyH _ _ _ _ _ 10 #[true, true, false, false, false, false, false, false, false, false, false, false] _ _
      refine heldTake (i := 5) (d := some 24) (v := ?v5_3) rfl rfl (by kernel_rfl) (by kernel_rfl) (by kernel_rfl) (fun _ _ _ h => h) (by rfl) ?hy5_3 (by assumption) ?r5_3
      case hy5_3 => (intro w hSw; (try dsimp only at hSw); go_simp; try with_reducible rfl)
      try simp only [Act.put, List.setIfInBounds_toArray, List.set_cons_zero, List.set_cons_succ]
      change wpAnyH _ _ _ _ _ 9 #[true, true, false, false, false, true, false, false, false, false, false, false] _ _
      refine heldTake (i := 6) (d := some 25) (v := ?v6_4) rfl rfl (by kernel_rfl) (by kernel_rfl) (by kernel_rfl) (fun _ _ _ h => h) (by rfl) ?hy6_4 (by assumption) ?r6_4
      case hy6_4 => (intro w5 hSw; have q0c := hSw.1.cell 2 rfl; go_simp; try with_reducible rfl)
      try simp only [Act.put, List.setIfInBounds_toArray, List.set_cons_zero, List.set_cons_succ]
      change wpAnyH _ _ _ _ _ 8 #[true, true, false, false, false, true, true, false, false, false, false, false] _ _
      refine wpAnyH_ready (rs := [2]) (by kernel_rfl) (by simp) ?_
      refine AllReadyH.cons rfl (fun K hK => ?_) AllReadyH.nil
      go_simp
      refine (HP.out _).mono ?_
      rintro e z9 ⟨rfl, hz9⟩
      go_wp2
      refine hK.out _ _ ⟨hHeld.1.upd hz9 (by simp), hHeld.2.then hz9⟩ (fun hHeld => ?_)
      clear hK K
      try simp only [Act.put, List.setIfInBounds_toArray, List.set_cons_zero, List.set_cons_succ]
      change wpAnyH _ _ _ _ _ 7 #[true, true, true, false, false, true, true, false, false, false, false, false] _ _
      refine heldTake (i := 3) (d := some 22) (v := ?v3_6) rfl rfl (by kernel_rfl) (by kernel_rfl) (by kernel_rfl) (fun _ _ _ h => h) (by rfl) ?hy3_6 (by assumption) ?r3_6
      case hy3_6 => (intro w hSw; (try dsimp only at hSw); go_simp; try with_reducible rfl)
      try simp only [Act.put, List.setIfInBounds_toArray, List.set_cons_zero, List.set_cons_succ]
      change wpAnyH _ _ _ _ _ 6 #[true, true, true, true, false, true, true, false, false, false, false, false] _ _
      refine heldTake (i := 4) (d := some 23) (v := ?v4_7) rfl rfl (by kernel_rfl) (by kernel_rfl) (by kernel_rfl) (fun _ _ _ h => h) (by rfl) ?hy4_7 (by assumption) ?r4_7
      case hy4_7 => (intro w hSw; (try dsimp only at hSw); go_simp; try with_reducible rfl)
      try simp only [Act.put, List.setIfInBounds_toArray, List.set_cons_zero, List.set_cons_succ]
      change wpAnyH _ _ _ _ _ 5 #[true, true, true, true, true, true, true, false, false, false, false, false] _ _
      refine wpAnyH_ready (rs := [7]) (by kernel_rfl) (by simp) ?_
      refine AllReadyH.cons rfl (fun K hK => ?_) AllReadyH.nil
      go_simp
      refine (HS.out _).mono ?_
      rintro e z9 ⟨rfl, hz9⟩
      go_wp2
      refine hK.out _ _ ⟨hHeld.1.upd hz9 (by simp), hHeld.2.then hz9⟩ (fun hHeld => ?_)
      clear hK K
      try simp only [Act.put, List.setIfInBounds_toArray, List.set_cons_zero, List.set_cons_succ]
      change wpAnyH _ _ _ _ _ 4 #[true, true, true, true, true, true, true, true, false, false, false, false] _ _
      refine wpAnyH_ready (rs := [8]) (by kernel_rfl) (by simp) ?_
      refine AllReadyH.cons rfl (fun K hK => ?_) AllReadyH.nil
      go_simp
      refine (HD.out _).mono ?_
      rintro e z9 ⟨rfl, hz9⟩
      go_wp2
      refine hK.out _ _ ⟨hHeld.1.upd hz9 (by simp), hHeld.2.then hz9⟩ (fun hHeld => ?_)
      clear hK K
      try simp only [Act.put, List.setIfInBounds_toArray, List.set_cons_zero, List.set_cons_succ]
      change wpAnyH _ _ _ _ _ 3 #[true, true, true, true, true, true, true, true, true, false, false, false] _ _
      refine heldTake (i := 9) (d := some 28) (v := ?v9_10) rfl rfl (by kernel_rfl) (by kernel_rfl) (by kernel_rfl) (fun _ _ _ h => h) (by rfl) ?hy9_10 (by assumption) ?r9_10
      case hy9_10 => (intro w hSw; (try dsimp only at hSw); go_simp; try with_reducible rfl)
      try simp only [Act.put, List.setIfInBounds_toArray, List.set_cons_zero, List.set_cons_succ]
      change wpAnyH _ _ _ _ _ 2 #[true, true, true, true, true, true, true, true, true, true, false, false] _ _
      refine heldTake (i := 10) (d := some 29) (v := ?v10_11) rfl rfl (by kernel_rfl) (by kernel_rfl) (by kernel_rfl) (fun _ _ _ h => h) (by rfl) ?hy10_11 (by assumption) ?r10_11
      case hy10_11 => (intro w hSw; (try dsimp only at hSw); go_simp; try with_reducible rfl)
      try simp only [Act.put, List.setIfInBounds_toArray, List.set_cons_zero, List.set_cons_succ]
      change wpAnyH _ _ _ _ _ 1 #[true, true, true, true, true, true, true, true, true, true, true, false] _ _
      refine heldTake (i := 11) (d := some 3) (v := ?v11_12) rfl rfl (by kernel_rfl) (by kernel_rfl) (by kernel_rfl) (fun _ _ _ h => h) (by rfl) ?hy11_12 (by assumption) ?r11_12
      case hy11_12 => (intro w hSw; (try dsimp only at hSw); go_simp; try with_reducible rfl)
      try simp only [Act.put, List.setIfInBounds_toArray, List.set_cons_zero, List.set_cons_succ]
      change wpAnyH _ _ _ _ _ 0 #[true, true, true, true, true, true, true, true, true, true, true, true] _ _
      refine wpAnyH_done (by kernel_rfl) ?_ 0
      have HB2 := Lib.hid hHeld.1
      have HU2 := Lib.hid hHeld.2
      have HBL := Lib.hid (length_bytesOf D)
      have hem := isEmpty_of D
      clear hHeld HB1 HU1 HP HS HD z1 z2 z3 z4 HF
      generalize z9 = w2 at *
      by_cases hDe : bytesOf D = []
      · have hem2 : D.toList.isEmpty = true := by rw [hem]; exact decide_eq_true hDe
        have hD0 : D.size = 0 := by rw [← length_bytesOf, hDe]; rfl
        have hDz : (D.size : Int) = 0 := by omega
        have HX : Hid (hexT (bytesOf D) = [45]) := Lib.hid (by unfold hexT; rw [if_pos hDe])
        rw [HX.out] at HV
        have z5 := fun w => addl_row2 X4 [45] (by simp; omega) w
        have y5 : strOf [45] = ({ data := #[45] } : ByteArray) := rfl
        rw [y5] at z5
        have c3 := HB2.out.cell 3 rfl
        clear hem y5 hDe
        generalize X4 ++ [45] = X5 at *
        go_wp2
        go_loopg [3, 4] 1 (fun gg s3 s4 wr => gg = 1 ∧ s4 = .int .i64 0 ∧ s3 = .string (strOf X5) ∧ Hid (Upd [] w2 wr))
        case atStart => exact ⟨rfl, rfl, rfl, Lib.hid (Upd.refl _ _)⟩
        case round =>
          obtain ⟨rfl, rfl, rfl, HU3⟩ := hrel
          have c3 := (HB2.out.upd HU3.out (by simp)).cell 3 rfl
          go_wp2
          go_ret
          exact ⟨by rw [HV.out]; rfl, HU2.out.then HU3.out⟩
      · have hem2 : D.toList.isEmpty = false := by rw [hem]; exact decide_eq_false hDe
        have HX : Hid (hexT (bytesOf D) = hexF (bytesOf D)) := Lib.hid (by unfold hexT; rw [if_neg hDe])
        rw [HX.out] at HV
        have c3 := HB2.out.cell 3 rfl
        clear hem hDe
        go_wp2
        go_loopg [3, 4] 2000 (fun gg s3 s4 wr => ∃ i : Nat, i ≤ D.size ∧ gg = 2000 - i ∧ s4 = .int .i64 (i : Nat) ∧ s3 = .string (strOf (X4 ++ hexF ((bytesOf D).take i))) ∧ Hid (Upd [] w2 wr))
        case atStart => exact ⟨0, by omega, by omega, rfl, by simp [hexF], Lib.hid (Upd.refl _ _)⟩
        case round =>
          obtain ⟨i, hin, rfl, rfl, rfl, HU3⟩ := hrel
          clear c3
          have c3 := (HB2.out.upd HU3.out (by simp)).cell 3 rfl
          by_cases hc : i < D.size
          · have hcz : (i : Int) < (D.size : Int) := by omega
            have hil : i < (bytesOf D).length := by rw [HBL.out]; exact hc
            have hw1 : IntKind.i64.wrap ((i : Int) + 1) = ((i + 1 : Nat) : Int) := by rw [IntWalk.i64_in _ (by omega)]; rfl
            have HB := Lib.hid (bytesOf_get D i hc hil)
            obtain ⟨x, hx⟩ : ∃ x : Nat, D[i].toNat = x := ⟨_, rfl⟩
            have hx256 : x < 256 := by rw [← hx]; exact D[i].toNat_lt
            have HHX := Lib.hid (fun w => rhex_any x w (by omega))
            have h8 : (strOf (hexP x 8)).size = 8 := by rw [size_strOf, hexP_len]
            have hcut := hexP8_cut x hx256
            have hlt : (hexF ((bytesOf D).take i)).length ≤ 2000 := by rw [hexF_len, List.length_take]; omega
            have z5 := addl_row2 (X4 ++ hexF ((bytesOf D).take i)) [hexd (x / 16), hexd (x % 16)] (by simp; omega)
            have HSN : Hid (X4 ++ hexF ((bytesOf D).take i) ++ [hexd (x / 16), hexd (x % 16)] = X4 ++ hexF ((bytesOf D).take (i + 1))) := Lib.hid (by
              rw [List.take_succ_eq_append_getElem hil, hexF_snoc, HB.out, hx, List.append_assoc])
            rw [HSN.out] at z5
            generalize X4 ++ hexF ((bytesOf D).take i) = Y1 at *
            obtain ⟨Y2, hY2⟩ : ∃ Y2, X4 ++ hexF ((bytesOf D).take (i + 1)) = Y2 := ⟨_, rfl⟩
            have HY2 := Lib.hid hY2
            rw [hY2] at z5
            obtain ⟨hp, hhp⟩ : ∃ hp, strOf (hexP x 8) = hp := ⟨_, rfl⟩
            rw [hhp] at HHX h8 hcut
            clear hY2 HSN hlt HB hil hhp
            generalize strOf [hexd (x / 16), hexd (x % 16)] = cc at *
            have h8z : (hp.size : Int) = 8 := by omega
            go_wp2_with fail
            refine (HHX.out _).mono ?_
            rintro e w3 ⟨rfl, hu3⟩
            have HU4 := Lib.hid (HU3.out.then hu3)
            clear hu3 HU3 HHX c3
            go_wp2
            go_roundg (2000 - (i + 1))
            · exact ⟨i + 1, by omega, by first | rfl | omega, by first | rfl | go_num, by rw [HY2.out], HU4⟩
            · omega
          · obtain rfl : i = D.size := by omega
            have hcz : ¬ (D.size : Int) < (D.size : Int) := by omega
            have HTK : Hid ((bytesOf D).take D.size = bytesOf D) := Lib.hid (List.take_of_length_le (by rw [HBL.out]; exact Nat.le_refl _))
            rw [HTK.out]
            go_wp2
            go_ret
            exact ⟨by rw [HV.out]; rfl, HU2.out.then HU3.out⟩
  · have HV : Hid ((NodN.mk k m t D).text = []) := Lib.hid (if_pos hfb)
    have hne : ¬ ((nodeErr k m t D : Nat) : Int) = 0 := by omega
    clear hfb
    generalize nodeErr k m t D = EE at *
    unfold nodeV at HF ⊢
    go_enter Tryz.func24, Tryz.ntmps24
    go_wp2_with fail
    refine (HF.out _).mono ?_
    rintro e w1 ⟨rfl, hu1⟩
    go_wp2
    go_ret
    exact ⟨by rw [HV.out]; rfl, ((Upd.refl _ _).alloc _).then hu1⟩
end Go.Proofs.YtigjingielnaoaaGreatDoor
