/- Package script: Text: its walk. -/
import Derived.Test.YtigjingielnaoaaDoorScH
import Derived.Test.YtigjingielnaoaaDoorQAL
import Derived.Test.YtigjingielnaoaaDoorQAM
import Derived.Test.YtigjingielnaoaaDoorDTxt
import Derived.Test.YtigjingielnaoaaDoorQAN
namespace Go.Proofs.YtigjingielnaoaaDoor
set_option linter.unusedVariables false
set_option linter.unusedSimpArgs false
set_option linter.unusedSectionVars false
open Go.RowKit
set_option linter.unusedVariables false
set_option linter.unusedSimpArgs false

theorem fileW4_lt (n : NodN) : ∀ p ∈ fileW4 n, ∀ x ∈ p, x < 256 := by
  intro p hp x hx
  unfold fileW4 at hp
  simp only [List.mem_cons, List.not_mem_nil, or_false] at hp
  rcases hp with rfl | rfl | rfl | rfl
  · simp at hx; omega
  · exact permTo_lt _ 9 x hx
  · exact dosTextP_lt _ x hx
  · have := hexT_dig _ (bytesOf_lt n.D) x hx; omega
theorem hexT_len (l : List Nat) : (hexT l).length ≤ 2 * l.length + 1 := by
  unfold hexT
  split
  · simp
  · rw [hexF_len]; omega
theorem fileW4_tot (n : NodN) (h : n.D.size ≤ 65000) : totC (fileW4 n) ≤ 200000 := by
  have h1 := permTo_len n.m.toNat 9
  have h2 := dosTextP_len n.t
  have h3 := hexT_len (bytesOf n.D)
  rw [length_bytesOf] at h3
  unfold fileW4
  simp only [totC, List.map_cons, List.map_nil, List.sum_cons, List.sum_nil, List.length_cons, List.length_nil]
  omega
set_option maxRecDepth 100000 in
set_option maxHeartbeats 6400000 in
theorem stext_any (k m : Int) (t : Nat) (D : ByteArray) (w : World) (ht : t < 4294967296) (hD : D.size ≤ 9223372036854775807) : Calls Tryd.prog 12 #[nodeV k m t D] w fun e w' => e = .returned (.string (strOf (NodN.mk k m t D).text)) ∧ Upd [] w w' := by
  have HF := Lib.hid (fun w' => nodeRight_any k m t D w' ht hD)
  by_cases hfb : nodeErr k m t D = 0
  · have HV0 : (NodN.mk k m t D).text = if k = 0 then [110, 111, 110, 101] else if k = 2 then [100, 105, 114, 32] ++ permTo m.toNat 9 else joinC 32 (fileW4 ⟨k, m, t, D⟩) := if_neg (by show ¬ nodeErr k m t D ≠ 0; rw [hfb]; simp)
    rw [hfb] at HF
    rcases nodeErr_zero hfb with ⟨rfl, rfl, rfl, hDe⟩ | ⟨rfl, hm0, hm1, rfl, hDe⟩ | ⟨rfl, hm0, hm1, htb, hDs⟩
    · have HV := Lib.hid (HV0.trans (if_pos rfl))
      clear HV0 hfb hDe
      unfold nodeV at HF ⊢
      have HB0 := Lib.hid (Blk.new w [.int .i64 0, .int .i64 0, .int .u32 ((0 : Nat) : Int), .string D] 31)
      go_enter Tryd.func12, Tryd.ntmps12
      go_wp2_with fail
      refine (HF.out _).mono ?_
      rintro e w1 ⟨rfl, hu1⟩
      have c0 := (HB0.out.upd hu1 (by simp)).cell 0 rfl
      go_wp2
      go_ret
      exact ⟨by rw [HV.out]; rfl, ((Upd.refl _ _).alloc _).then hu1⟩
    · obtain ⟨m, rfl⟩ : ∃ n : Nat, m = n := ⟨m.toNat, by omega⟩
      have HV := Lib.hid ((HV0.trans (if_neg (by omega))).trans (if_pos rfl))
      clear HV0 hfb hDe
      rw [Int.toNat_natCast] at HV
      have hadd := fun w => addl_row [100, 105, 114, 32] (permTo m 9) (by rw [permTo_len]; simp) w
      have hadd2 : ∀ w : World, (Op.stringOp .add ({ data := #[100, 105, 114, 32] } : ByteArray) (strOf (permTo m 9))).run Tryd.prog w = .ok (.string (strOf ([100, 105, 114, 32] ++ permTo m 9))) w := hadd
      clear hadd
      have HP := Lib.hid (fun w => perm_any m w (by omega))
      generalize [100, 105, 114, 32] ++ permTo m 9 = TX at *
      unfold nodeV at HF ⊢
      have HB0 := Lib.hid (Blk.new w [.int .i64 2, .int .i64 (m : Nat), .int .u32 ((0 : Nat) : Int), .string D] 31)
      go_enter Tryd.func12, Tryd.ntmps12
      go_wp2_with fail
      refine (HF.out _).mono ?_
      rintro e w1 ⟨rfl, hu1⟩
      have c0 := (HB0.out.upd hu1 (by simp)).cell 0 rfl
      have c1 := (HB0.out.upd hu1 (by simp)).cell 1 rfl
      go_wp2_with fail
      refine (HP.out _).mono ?_
      rintro e w2 ⟨rfl, hu2⟩
      go_wp2
      go_ret
      exact ⟨by rw [HV.out]; rfl, (((Upd.refl _ _).alloc _).then hu1).then hu2⟩
    · obtain ⟨m, rfl⟩ : ∃ n : Nat, m = n := ⟨m.toNat, by omega⟩
      have HV := Lib.hid ((HV0.trans (if_neg (by omega))).trans (if_neg (by omega)))
      clear HV0 hfb
      have HJ := Lib.hid (fun v w h => joinC_any (fileW4 ⟨1, m, t, D⟩) 32 v w h (fileW4_lt _) (by simp [fileW4]) (by have := fileW4_tot ⟨1, m, t, D⟩ hDs; omega))
      have HTN := Lib.hid (fun w => textsAt_new w (fileW4 ⟨1, m, t, D⟩) 9)
      have HE : Hid (joinC (32 : UInt8).toNat (fileW4 ⟨1, m, t, D⟩) = joinC 32 (fileW4 ⟨1, m, t, D⟩)) := Lib.hid rfl
      rw [HE.out] at HJ
      clear HE
      generalize joinC 32 (fileW4 ⟨1, m, t, D⟩) = TX at *
      have HP := Lib.hid (fun w => perm_any m w (by omega))
      have HD := Lib.hid (fun w => dosText_any t w ht)
      have HX := Lib.hid (fun w => shex_any D w hDs)
      have HFW : Hid (fileW4 ⟨1, m, t, D⟩ = [[102, 105, 108, 101], permTo m 9, dosTextP t, hexT (bytesOf D)]) := Lib.hid rfl
      rw [HFW.out] at HTN HJ
      clear HFW
      generalize permTo m 9 = W1 at *
      generalize dosTextP t = W2 at *
      generalize hexT (bytesOf D) = W3 at *
      unfold nodeV at HF ⊢
      have HB0 := Lib.hid (Blk.new w [.int .i64 1, .int .i64 (m : Nat), .int .u32 (t : Nat), .string D] 31)
      have HU0 := Lib.hid ((Upd.refl [] w).alloc (.cells #[.int .i64 1, .int .i64 (m : Nat), .int .u32 (t : Nat), .string D] 31))
      go_enter Tryd.func12, Tryd.ntmps12
      go_wp2_with fail
      refine (HF.out _).mono ?_
      rintro e w1 ⟨rfl, hu1⟩
      have HB1 := Lib.hid (HB0.out.upd hu1 (by simp))
      have HU1 := Lib.hid (HU0.out.then hu1)
      clear HB0 HU0 hu1
      have c0 := HB1.out.cell 0 rfl
      go_wp2_with fail
      clear c0
      generalize w.heap.size = q0 at *
      refine wp_region_held_drew (S := fun w' => Blk w' q0 [.int .i64 1, .int .i64 (m : Nat), .int .u32 (t : Nat), .string D] 31 ∧ Upd [] w w') (by kernel_rfl) ⟨HB1.out, HU1.out.drew⟩ (fun hHeld => ?_)
      change wpAnyH _ _ _ _ _ 12 #[false, false, false, false, false, false, false, false, false, false, false, false] _ _
      refine heldTake (i := 0) (d := some 16) (v := ?v0_1) rfl rfl (by kernel_rfl) (by kernel_rfl) (by kernel_rfl) (fun _ _ _ h => h) (by rfl) ?hy0_1 (by assumption) ?r0_1
      case hy0_1 => (intro w hSw; (try dsimp only at hSw); go_simp; try with_reducible rfl)
      try simp only [Act.put, List.setIfInBounds_toArray, List.set_cons_zero, List.set_cons_succ]
      change wpAnyH _ _ _ _ _ 11 #[true, false, false, false, false, false, false, false, false, false, false, false] _ _
      refine heldTake (i := 1) (d := some 17) (v := ?v1_2) rfl rfl (by kernel_rfl) (by kernel_rfl) (by kernel_rfl) (fun _ _ _ h => h) (by rfl) ?hy1_2 (by assumption) ?r1_2
      case hy1_2 => (intro w5 hSw; have q0c := hSw.1.cell 1 rfl; go_simp; try with_reducible rfl)
      try simp only [Act.put, List.setIfInBounds_toArray, List.set_cons_zero, List.set_cons_succ]
      change wpAnyH _ _ _ _ _ 10 #[true, true, false, false, false, false, false, false, false, false, false, false] _ _
      refine heldTake (i := 3) (d := some 19) (v := ?v3_3) rfl rfl (by kernel_rfl) (by kernel_rfl) (by kernel_rfl) (fun _ _ _ h => h) (by rfl) ?hy3_3 (by assumption) ?r3_3
      case hy3_3 => (intro w hSw; (try dsimp only at hSw); go_simp; try with_reducible rfl)
      try simp only [Act.put, List.setIfInBounds_toArray, List.set_cons_zero, List.set_cons_succ]
      change wpAnyH _ _ _ _ _ 9 #[true, true, false, true, false, false, false, false, false, false, false, false] _ _
      refine heldTake (i := 4) (d := some 20) (v := ?v4_4) rfl rfl (by kernel_rfl) (by kernel_rfl) (by kernel_rfl) (fun _ _ _ h => h) (by rfl) ?hy4_4 (by assumption) ?r4_4
      case hy4_4 => (intro w5 hSw; have q0c := hSw.1.cell 2 rfl; go_simp; try with_reducible rfl)
      try simp only [Act.put, List.setIfInBounds_toArray, List.set_cons_zero, List.set_cons_succ]
      change wpAnyH _ _ _ _ _ 8 #[true, true, false, true, true, false, false, false, false, false, false, false] _ _
      refine heldTake (i := 6) (d := some 22) (v := ?v6_5) rfl rfl (by kernel_rfl) (by kernel_rfl) (by kernel_rfl) (fun _ _ _ h => h) (by rfl) ?hy6_5 (by assumption) ?r6_5
      case hy6_5 => (intro w hSw; (try dsimp only at hSw); go_simp; try with_reducible rfl)
      try simp only [Act.put, List.setIfInBounds_toArray, List.set_cons_zero, List.set_cons_succ]
      change wpAnyH _ _ _ _ _ 7 #[true, true, false, true, true, false, true, false, false, false, false, false] _ _
      refine heldTake (i := 7) (d := some 23) (v := ?v7_6) rfl rfl (by kernel_rfl) (by kernel_rfl) (by kernel_rfl) (fun _ _ _ h => h) (by rfl) ?hy7_6 (by assumption) ?r7_6
      case hy7_6 => (intro w5 hSw; have q0c := hSw.1.cell 3 rfl; go_simp; try with_reducible rfl)
      try simp only [Act.put, List.setIfInBounds_toArray, List.set_cons_zero, List.set_cons_succ]
      change wpAnyH _ _ _ _ _ 6 #[true, true, false, true, true, false, true, true, false, false, false, false] _ _
      refine wpAnyH_ready (rs := [2]) (by kernel_rfl) (by simp) ?_
      refine AllReadyH.cons rfl (fun K hK => ?_) AllReadyH.nil
      go_simp
      refine (HP.out _).mono ?_
      rintro e z9 ⟨rfl, hz9⟩
      go_wp2
      refine hK.out _ _ ⟨hHeld.1.upd hz9 (by simp), hHeld.2.then hz9⟩ (fun hHeld => ?_)
      clear hK K
      try simp only [Act.put, List.setIfInBounds_toArray, List.set_cons_zero, List.set_cons_succ]
      change wpAnyH _ _ _ _ _ 5 #[true, true, true, true, true, false, true, true, false, false, false, false] _ _
      refine wpAnyH_ready (rs := [5]) (by kernel_rfl) (by simp) ?_
      refine AllReadyH.cons rfl (fun K hK => ?_) AllReadyH.nil
      go_simp
      refine (HD.out _).mono ?_
      rintro e z9 ⟨rfl, hz9⟩
      go_wp2
      refine hK.out _ _ ⟨hHeld.1.upd hz9 (by simp), hHeld.2.then hz9⟩ (fun hHeld => ?_)
      clear hK K
      try simp only [Act.put, List.setIfInBounds_toArray, List.set_cons_zero, List.set_cons_succ]
      change wpAnyH _ _ _ _ _ 4 #[true, true, true, true, true, true, true, true, false, false, false, false] _ _
      refine wpAnyH_ready (rs := [8]) (by kernel_rfl) (by simp) ?_
      refine AllReadyH.cons rfl (fun K hK => ?_) AllReadyH.nil
      go_simp
      refine (HX.out _).mono ?_
      rintro e z9 ⟨rfl, hz9⟩
      go_wp2
      refine hK.out _ _ ⟨hHeld.1.upd hz9 (by simp), hHeld.2.then hz9⟩ (fun hHeld => ?_)
      clear hK K
      try simp only [Act.put, List.setIfInBounds_toArray, List.set_cons_zero, List.set_cons_succ]
      change wpAnyH _ _ _ _ _ 3 #[true, true, true, true, true, true, true, true, true, false, false, false] _ _
      refine wpAnyH_ready (rs := [9]) (by kernel_rfl) (by simp) ?_
      refine AllReadyH.cons rfl (fun K hK => ?_) AllReadyH.nil
      go_simp
      have HTZ := Lib.hid (HTN.out z9)
      go_wp2
      refine hK.out _ _ ⟨hHeld.1.alloc _, hHeld.2.alloc _⟩ (fun hHeld => ?_)
      clear hK K
      try simp only [Act.put, List.setIfInBounds_toArray, List.set_cons_zero, List.set_cons_succ]
      change wpAnyH _ _ _ _ _ 2 #[true, true, true, true, true, true, true, true, true, true, false, false] _ _
      refine wpAnyH_ready (rs := [10]) (by kernel_rfl) (by simp) ?_
      refine AllReadyH.cons rfl (fun K hK => ?_) AllReadyH.nil
      go_simp
      refine (HJ.out _ _ HTZ.out).mono ?_
      rintro e z9 ⟨rfl, hz9⟩
      go_wp2
      refine hK.out _ _ ⟨hHeld.1.upd hz9 (by simp), hHeld.2.then hz9⟩ (fun hHeld => ?_)
      clear hK K
      try simp only [Act.put, List.setIfInBounds_toArray, List.set_cons_zero, List.set_cons_succ]
      change wpAnyH _ _ _ _ _ 1 #[true, true, true, true, true, true, true, true, true, true, true, false] _ _
      refine heldTake (i := 11) (d := some 2) (v := ?v11_12) rfl rfl (by kernel_rfl) (by kernel_rfl) (by kernel_rfl) (fun _ _ _ h => h) (by rfl) ?hy11_12 (by assumption) ?r11_12
      case hy11_12 => (intro w hSw; (try dsimp only at hSw); go_simp; try with_reducible rfl)
      try simp only [Act.put, List.setIfInBounds_toArray, List.set_cons_zero, List.set_cons_succ]
      change wpAnyH _ _ _ _ _ 0 #[true, true, true, true, true, true, true, true, true, true, true, true] _ _
      refine wpAnyH_done (by kernel_rfl) ?_ 0
      go_wp2_with fail
      go_ret
      exact ⟨by rw [HV.out]; rfl, hHeld.2⟩
  · have HV : Hid ((NodN.mk k m t D).text = []) := Lib.hid (if_pos hfb)
    have hne : ¬ ((nodeErr k m t D : Nat) : Int) = 0 := by omega
    clear hfb
    generalize nodeErr k m t D = EE at *
    unfold nodeV at HF ⊢
    go_enter Tryd.func12, Tryd.ntmps12
    go_wp2_with fail
    refine (HF.out _).mono ?_
    rintro e w1 ⟨rfl, hu1⟩
    go_wp2
    go_ret
    exact ⟨by rw [HV.out]; rfl, ((Upd.refl _ _).alloc _).then hu1⟩
end Go.Proofs.YtigjingielnaoaaDoor
