/- Packages node and swingleref14: Text: walks. -/
import Derived.Test.YtibmhadnfggmlaaDoorNFine
import Derived.Test.YtibmhadnfggmlaaDoorRPerm
import Derived.Test.YtibmhadnfggmlaaDoorJoinV
import Derived.Test.YtibmhadnfggmlaaDoorDTxu
namespace Go.Proofs.YtibmhadnfggmlaaDoor
set_option linter.unusedVariables false
set_option linter.unusedSimpArgs false
set_option linter.unusedSectionVars false
open Go.RowKit
set_option linter.unusedVariables false
set_option linter.unusedSimpArgs false

/-- The words of a file's print. -/
def fileW (m t s c : Nat) : List (List Nat) := [[102, 105, 108, 101], permTo m 9, dosTextP t, decL s, hexP c 8]
/-- The text of a print. -/
def textP (k m : Int) (t : Nat) (s : Int) (c : Nat) : List Nat :=
  if fineB k m t s c = false then [] else if k = 0 then [110, 111, 110, 101] else if k = 2 then [100, 105, 114, 32] ++ permTo m.toNat 9 else joinC 32 (fileW m.toNat t s.toNat c)
theorem fineB_cases {k m : Int} {t : Nat} {s : Int} {c : Nat} (h : fineB k m t s c = true) : (k = 0 ∧ m = 0 ∧ t = 0 ∧ s = 0 ∧ c = 0) ∨ (k = 2 ∧ 0 ≤ m ∧ m ≤ 511 ∧ t = 0 ∧ s = 0 ∧ c = 0) ∨ (k = 1 ∧ 0 ≤ m ∧ m ≤ 511 ∧ timeB t = true ∧ 0 ≤ s ∧ s ≤ 65000 ∧ (0 < s ∨ c = 0)) := by
  unfold fineB at h
  by_cases h0 : k = 0
  · rw [if_pos h0] at h
    exact Or.inl ⟨h0, of_decide_eq_true h⟩
  · rw [if_neg h0] at h
    by_cases h2 : k = 2
    · rw [if_pos h2] at h
      exact Or.inr (Or.inl ⟨h2, of_decide_eq_true h⟩)
    · rw [if_neg h2] at h
      by_cases h1 : k = 1
      · rw [if_pos h1] at h
        exact Or.inr (Or.inr ⟨h1, of_decide_eq_true h⟩)
      · rw [if_neg h1] at h; cases h
theorem textsAt_new (w : World) (ps : List (List Nat)) (T : TypeId) : TextsAt (w.alloc (.cells (ps.map fun p => Value.string (strOf p)).toArray T)) (.slice (some ⟨w.heap.size, 0, none⟩) ps.length ps.length) ps := by
  have hB := Blk.new w (ps.map fun p => Value.string (strOf p)) T
  exact ⟨_, _, rfl, Nat.le_refl _, fun i hi => ⟨_, 0, rfl, by rw [Nat.zero_add]; exact hB.cell i (by rw [List.getElem?_map, List.getElem?_eq_getElem hi]; rfl)⟩⟩
theorem decL_lt (n : Nat) (hn : n < 1000000) : ∀ x ∈ decL n, x < 256 := fun x hx => by have := decL_dig 6 n (by omega) x hx; omega
theorem hexP_lt (n : Nat) : ∀ x ∈ hexP n 8, x < 256 := fun x hx => by have := hexP_dig 8 n x hx; omega
theorem fileW_lt (m t s c : Nat) (hs : s < 1000000) : ∀ p ∈ fileW m t s c, ∀ x ∈ p, x < 256 := by
  intro p hp x hx
  unfold fileW at hp
  simp only [List.mem_cons, List.not_mem_nil, or_false] at hp
  rcases hp with rfl | rfl | rfl | rfl | rfl
  · simp at hx; omega
  · exact permTo_lt m 9 x hx
  · exact dosTextP_lt t x hx
  · exact decL_lt s hs x hx
  · exact hexP_lt c x hx
theorem clockP_len (y mo d h mi s : Nat) : (clockP y mo d h mi s).length = 19 := by
  unfold clockP
  simp only [List.length_append, digP_len, List.length_cons, List.length_nil]
theorem dosTextP_len (t : Nat) : (dosTextP t).length ≤ 19 := by
  unfold dosTextP
  split
  · rw [clockP_len]; omega
  · simp
theorem fileW_tot (m t s c : Nat) (hs : s < 1000000) : totC (fileW m t s c) ≤ 1000 := by
  have h1 := permTo_len m 9
  have h2 := dosTextP_len t
  have h3 := decL_len 6 s (by omega)
  have h4 := hexP_len 8 c
  unfold fileW
  simp only [totC, List.map_cons, List.map_nil, List.sum_cons, List.sum_nil, List.length_cons, List.length_nil]
  omega
set_option maxRecDepth 100000 in
set_option maxHeartbeats 6400000 in
theorem ntext_any (k m : Int) (t : Nat) (s : Int) (c : Nat) (w : World) (ht : t < 4294967296) (hc : c < 4294967296) : Calls Tryd.prog 23 #[printI k m t s c] w fun e w' => e = .returned (.string (strOf (textP k m t s c))) ∧ Upd [] w w' := by
  have HF := Lib.hid (fun w' => nfine_any k m t s c w' ht hc)
  cases hfb : fineB k m t s c with
  | false =>
    have HV : Hid (textP k m t s c = []) := Lib.hid (if_pos hfb)
    rw [hfb] at HF
    clear hfb
    unfold printI at HF ⊢
    go_enter Tryd.func23, Tryd.ntmps23
    go_wp2_with fail
    refine (HF.out _).mono ?_
    rintro e w1 ⟨rfl, hu1⟩
    go_wp2
    go_ret
    exact ⟨by rw [HV.out]; rfl, ((Upd.refl _ _).alloc _).then hu1⟩
  | true =>
    have HV0 : textP k m t s c = if k = 0 then [110, 111, 110, 101] else if k = 2 then [100, 105, 114, 32] ++ permTo m.toNat 9 else joinC 32 (fileW m.toNat t s.toNat c) := if_neg (by rw [hfb]; simp)
    rw [hfb] at HF
    rcases fineB_cases hfb with ⟨rfl, rfl, rfl, rfl, rfl⟩ | ⟨rfl, hm0, hm1, rfl, rfl, rfl⟩ | ⟨rfl, hm0, hm1, htb, hs0, hs1, hsc⟩
    · have HV := Lib.hid (HV0.trans (if_pos rfl))
      clear HV0 hfb
      unfold printI at HF ⊢
      have HB0 := Lib.hid (Blk.new w [.int .i64 0, .int .i64 0, .int .u32 ((0 : Nat) : Int), .int .i64 0, .int .u32 ((0 : Nat) : Int)] 32)
      go_enter Tryd.func23, Tryd.ntmps23
      go_wp2_with fail
      refine (HF.out _).mono ?_
      rintro e w1 ⟨rfl, hu1⟩
      have c0 := (HB0.out.upd hu1 (by simp)).cell 0 rfl
      go_wp2
      go_ret
      exact ⟨by rw [HV.out]; rfl, ((Upd.refl _ _).alloc _).then hu1⟩
    · obtain ⟨m, rfl⟩ : ∃ n : Nat, m = n := ⟨m.toNat, by omega⟩
      have HV := Lib.hid ((HV0.trans (if_neg (by omega))).trans (if_pos rfl))
      clear HV0 hfb
      rw [Int.toNat_natCast] at HV
      have hadd := fun w => addl_row [100, 105, 114, 32] (permTo m 9) (by rw [permTo_len]; simp) w
      have hadd2 : ∀ w : World, (Op.stringOp .add ({ data := #[100, 105, 114, 32] } : ByteArray) (strOf (permTo m 9))).run Tryd.prog w = .ok (.string (strOf ([100, 105, 114, 32] ++ permTo m 9))) w := hadd
      clear hadd
      have HP := Lib.hid (fun w => perm_any m w (by omega))
      generalize [100, 105, 114, 32] ++ permTo m 9 = TX at *
      unfold printI at HF ⊢
      have HB0 := Lib.hid (Blk.new w [.int .i64 2, .int .i64 (m : Nat), .int .u32 ((0 : Nat) : Int), .int .i64 0, .int .u32 ((0 : Nat) : Int)] 32)
      go_enter Tryd.func23, Tryd.ntmps23
      go_wp2_with fail
      refine (HF.out _).mono ?_
      rintro e w1 ⟨rfl, hu1⟩
      have c0 := (HB0.out.upd hu1 (by simp)).cell 0 rfl
      have c1 := (HB0.out.upd hu1 (by simp)).cell 1 rfl
      go_wp2_with fail
      refine (HP.out _).mono ?_
      rintro e w2 ⟨rfl, hu2⟩
      go_wp2
      go_ret
      exact ⟨by rw [HV.out]; rfl, (((Upd.refl _ _).alloc _).then hu1).then hu2⟩
    · obtain ⟨m, rfl⟩ : ∃ n : Nat, m = n := ⟨m.toNat, by omega⟩
      obtain ⟨s, rfl⟩ : ∃ n : Nat, s = n := ⟨s.toNat, by omega⟩
      have HV := Lib.hid ((HV0.trans (if_neg (by omega))).trans (if_neg (by omega)))
      clear HV0 hfb
      rw [Int.toNat_natCast, Int.toNat_natCast] at HV
      have HJ := Lib.hid (fun v w h => joinC_any (fileW m t s c) 32 v w h (fileW_lt m t s c (by omega)) (by simp [fileW]) (by have := fileW_tot m t s c (by omega); omega))
      have HTN := Lib.hid (fun w => textsAt_new w (fileW m t s c) 9)
      have HE : Hid (joinC (32 : UInt8).toNat (fileW m t s c) = joinC 32 (fileW m t s c)) := Lib.hid rfl
      rw [HE.out] at HJ
      clear HE
      generalize joinC 32 (fileW m t s c) = TX at *
      have HP := Lib.hid (fun w => perm_any m w (by omega))
      have HD := Lib.hid (fun w => dosText_any t w ht)
      have HC := Lib.hid (fun w => ndec_any s w (by omega))
      have HX := Lib.hid (fun w => nhex_any c w hc)
      have HFW : Hid (fileW m t s c = [[102, 105, 108, 101], permTo m 9, dosTextP t, decL s, hexP c 8]) := Lib.hid rfl
      rw [HFW.out] at HTN HJ
      clear HFW
      generalize permTo m 9 = W1 at *
      generalize dosTextP t = W2 at *
      generalize decL s = W3 at *
      generalize hexP c 8 = W4 at *
      unfold printI at HF ⊢
      have HB0 := Lib.hid (Blk.new w [.int .i64 1, .int .i64 (m : Nat), .int .u32 (t : Nat), .int .i64 (s : Nat), .int .u32 (c : Nat)] 32)
      have HU0 := Lib.hid ((Upd.refl [] w).alloc (.cells #[.int .i64 1, .int .i64 (m : Nat), .int .u32 (t : Nat), .int .i64 (s : Nat), .int .u32 (c : Nat)] 32))
      go_enter Tryd.func23, Tryd.ntmps23
      go_wp2_with fail
      refine (HF.out _).mono ?_
      rintro e w1 ⟨rfl, hu1⟩
      have HB1 := Lib.hid (HB0.out.upd hu1 (by simp))
      have HU1 := Lib.hid (HU0.out.then hu1)
      clear HB0 HU0 hu1
      have c0 := HB1.out.cell 0 rfl
      go_wp2_with fail
      clear c0
      generalize w.heap.size = q0 at *
      refine wp_region_held_drew (S := fun w' => Blk w' q0 [.int .i64 1, .int .i64 (m : Nat), .int .u32 (t : Nat), .int .i64 (s : Nat), .int .u32 (c : Nat)] 32 ∧ Upd [] w w') (by kernel_rfl) ⟨HB1.out, HU1.out.drew⟩ (fun hHeld => ?_)
      change wpAnyH _ _ _ _ _ 15 #[false, false, false, false, false, false, false, false, false, false, false, false, false, false, false] _ _
      refine heldTake (i := 0) (d := some 16) (v := ?v0_1) rfl rfl (by kernel_rfl) (by kernel_rfl) (by kernel_rfl) (fun _ _ _ h => h) (by rfl) ?hy0_1 (by assumption) ?r0_1
      case hy0_1 => (intro w hSw; (try dsimp only at hSw); go_simp; try with_reducible rfl)
      try simp only [Act.put, List.setIfInBounds_toArray, List.set_cons_zero, List.set_cons_succ]
      change wpAnyH _ _ _ _ _ 14 #[true, false, false, false, false, false, false, false, false, false, false, false, false, false, false] _ _
      refine heldTake (i := 1) (d := some 17) (v := ?v1_2) rfl rfl (by kernel_rfl) (by kernel_rfl) (by kernel_rfl) (fun _ _ _ h => h) (by rfl) ?hy1_2 (by assumption) ?r1_2
      case hy1_2 => (intro w5 hSw; have q0c := hSw.1.cell 1 rfl; go_simp; try with_reducible rfl)
      try simp only [Act.put, List.setIfInBounds_toArray, List.set_cons_zero, List.set_cons_succ]
      change wpAnyH _ _ _ _ _ 13 #[true, true, false, false, false, false, false, false, false, false, false, false, false, false, false] _ _
      refine heldTake (i := 3) (d := some 19) (v := ?v3_3) rfl rfl (by kernel_rfl) (by kernel_rfl) (by kernel_rfl) (fun _ _ _ h => h) (by rfl) ?hy3_3 (by assumption) ?r3_3
      case hy3_3 => (intro w hSw; (try dsimp only at hSw); go_simp; try with_reducible rfl)
      try simp only [Act.put, List.setIfInBounds_toArray, List.set_cons_zero, List.set_cons_succ]
      change wpAnyH _ _ _ _ _ 12 #[true, true, false, true, false, false, false, false, false, false, false, false, false, false, false] _ _
      refine heldTake (i := 4) (d := some 20) (v := ?v4_4) rfl rfl (by kernel_rfl) (by kernel_rfl) (by kernel_rfl) (fun _ _ _ h => h) (by rfl) ?hy4_4 (by assumption) ?r4_4
      case hy4_4 => (intro w5 hSw; have q0c := hSw.1.cell 2 rfl; go_simp; try with_reducible rfl)
      try simp only [Act.put, List.setIfInBounds_toArray, List.set_cons_zero, List.set_cons_succ]
      change wpAnyH _ _ _ _ _ 11 #[true, true, false, true, true, false, false, false, false, false, false, false, false, false, false] _ _
      refine heldTake (i := 6) (d := some 22) (v := ?v6_5) rfl rfl (by kernel_rfl) (by kernel_rfl) (by kernel_rfl) (fun _ _ _ h => h) (by rfl) ?hy6_5 (by assumption) ?r6_5
      case hy6_5 => (intro w hSw; (try dsimp only at hSw); go_simp; try with_reducible rfl)
      try simp only [Act.put, List.setIfInBounds_toArray, List.set_cons_zero, List.set_cons_succ]
      change wpAnyH _ _ _ _ _ 10 #[true, true, false, true, true, false, true, false, false, false, false, false, false, false, false] _ _
      refine heldTake (i := 7) (d := some 23) (v := ?v7_6) rfl rfl (by kernel_rfl) (by kernel_rfl) (by kernel_rfl) (fun _ _ _ h => h) (by rfl) ?hy7_6 (by assumption) ?r7_6
      case hy7_6 => (intro w5 hSw; have q0c := hSw.1.cell 3 rfl; go_simp; try with_reducible rfl)
      try simp only [Act.put, List.setIfInBounds_toArray, List.set_cons_zero, List.set_cons_succ]
      change wpAnyH _ _ _ _ _ 9 #[true, true, false, true, true, false, true, true, false, false, false, false, false, false, false] _ _
      refine heldTake (i := 9) (d := some 25) (v := ?v9_7) rfl rfl (by kernel_rfl) (by kernel_rfl) (by kernel_rfl) (fun _ _ _ h => h) (by rfl) ?hy9_7 (by assumption) ?r9_7
      case hy9_7 => (intro w hSw; (try dsimp only at hSw); go_simp; try with_reducible rfl)
      try simp only [Act.put, List.setIfInBounds_toArray, List.set_cons_zero, List.set_cons_succ]
      change wpAnyH _ _ _ _ _ 8 #[true, true, false, true, true, false, true, true, false, true, false, false, false, false, false] _ _
      refine heldTake (i := 10) (d := some 26) (v := ?v10_8) rfl rfl (by kernel_rfl) (by kernel_rfl) (by kernel_rfl) (fun _ _ _ h => h) (by rfl) ?hy10_8 (by assumption) ?r10_8
      case hy10_8 => (intro w5 hSw; have q0c := hSw.1.cell 4 rfl; go_simp; try with_reducible rfl)
      try simp only [Act.put, List.setIfInBounds_toArray, List.set_cons_zero, List.set_cons_succ]
      change wpAnyH _ _ _ _ _ 7 #[true, true, false, true, true, false, true, true, false, true, true, false, false, false, false] _ _
      refine wpAnyH_ready (rs := [2]) (by kernel_rfl) (by simp) ?_
      refine AllReadyH.cons rfl (fun K hK => ?_) AllReadyH.nil
      go_simp
      refine (HP.out _).mono ?_
      rintro e z9 ⟨rfl, hz9⟩
      go_wp2
      refine hK.out _ _ ⟨hHeld.1.upd hz9 (by simp), hHeld.2.then hz9⟩ (fun hHeld => ?_)
      clear hK K
      try simp only [Act.put, List.setIfInBounds_toArray, List.set_cons_zero, List.set_cons_succ]
      change wpAnyH _ _ _ _ _ 6 #[true, true, true, true, true, false, true, true, false, true, true, false, false, false, false] _ _
      refine wpAnyH_ready (rs := [5]) (by kernel_rfl) (by simp) ?_
      refine AllReadyH.cons rfl (fun K hK => ?_) AllReadyH.nil
      go_simp
      refine (HD.out _).mono ?_
      rintro e z9 ⟨rfl, hz9⟩
      go_wp2
      refine hK.out _ _ ⟨hHeld.1.upd hz9 (by simp), hHeld.2.then hz9⟩ (fun hHeld => ?_)
      clear hK K
      try simp only [Act.put, List.setIfInBounds_toArray, List.set_cons_zero, List.set_cons_succ]
      change wpAnyH _ _ _ _ _ 5 #[true, true, true, true, true, true, true, true, false, true, true, false, false, false, false] _ _
      refine wpAnyH_ready (rs := [8]) (by kernel_rfl) (by simp) ?_
      refine AllReadyH.cons rfl (fun K hK => ?_) AllReadyH.nil
      go_simp
      refine (HC.out _).mono ?_
      rintro e z9 ⟨rfl, hz9⟩
      go_wp2
      refine hK.out _ _ ⟨hHeld.1.upd hz9 (by simp), hHeld.2.then hz9⟩ (fun hHeld => ?_)
      clear hK K
      try simp only [Act.put, List.setIfInBounds_toArray, List.set_cons_zero, List.set_cons_succ]
      change wpAnyH _ _ _ _ _ 4 #[true, true, true, true, true, true, true, true, true, true, true, false, false, false, false] _ _
      refine wpAnyH_ready (rs := [11]) (by kernel_rfl) (by simp) ?_
      refine AllReadyH.cons rfl (fun K hK => ?_) AllReadyH.nil
      go_simp
      refine (HX.out _).mono ?_
      rintro e z9 ⟨rfl, hz9⟩
      go_wp2
      refine hK.out _ _ ⟨hHeld.1.upd hz9 (by simp), hHeld.2.then hz9⟩ (fun hHeld => ?_)
      clear hK K
      try simp only [Act.put, List.setIfInBounds_toArray, List.set_cons_zero, List.set_cons_succ]
      change wpAnyH _ _ _ _ _ 3 #[true, true, true, true, true, true, true, true, true, true, true, true, false, false, false] _ _
      refine wpAnyH_ready (rs := [12]) (by kernel_rfl) (by simp) ?_
      refine AllReadyH.cons rfl (fun K hK => ?_) AllReadyH.nil
      go_simp
      have HTZ := Lib.hid (HTN.out z9)
      go_wp2
      refine hK.out _ _ ⟨hHeld.1.alloc _, hHeld.2.alloc _⟩ (fun hHeld => ?_)
      clear hK K
      try simp only [Act.put, List.setIfInBounds_toArray, List.set_cons_zero, List.set_cons_succ]
      change wpAnyH _ _ _ _ _ 2 #[true, true, true, true, true, true, true, true, true, true, true, true, true, false, false] _ _
      refine wpAnyH_ready (rs := [13]) (by kernel_rfl) (by simp) ?_
      refine AllReadyH.cons rfl (fun K hK => ?_) AllReadyH.nil
      go_simp
      refine (HJ.out _ _ HTZ.out).mono ?_
      rintro e z9 ⟨rfl, hz9⟩
      go_wp2
      refine hK.out _ _ ⟨hHeld.1.upd hz9 (by simp), hHeld.2.then hz9⟩ (fun hHeld => ?_)
      clear hK K
      try simp only [Act.put, List.setIfInBounds_toArray, List.set_cons_zero, List.set_cons_succ]
      change wpAnyH _ _ _ _ _ 1 #[true, true, true, true, true, true, true, true, true, true, true, true, true, true, false] _ _
      refine heldTake (i := 14) (d := some 2) (v := ?v14_15) rfl rfl (by kernel_rfl) (by kernel_rfl) (by kernel_rfl) (fun _ _ _ h => h) (by rfl) ?hy14_15 (by assumption) ?r14_15
      case hy14_15 => (intro w hSw; (try dsimp only at hSw); go_simp; try with_reducible rfl)
      try simp only [Act.put, List.setIfInBounds_toArray, List.set_cons_zero, List.set_cons_succ]
      change wpAnyH _ _ _ _ _ 0 #[true, true, true, true, true, true, true, true, true, true, true, true, true, true, true] _ _
      refine wpAnyH_done (by kernel_rfl) ?_ 0
      go_wp2_with fail
      go_ret
      exact ⟨by rw [HV.out]; rfl, hHeld.2⟩
end Go.Proofs.YtibmhadnfggmlaaDoor
