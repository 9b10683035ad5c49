/- Package script: Right, for any event: its walk; what its words are bounded by. -/
import Derived.Test.YtigjingielnaoaaDoorSMay
import Derived.Test.YtigjingielnaoaaDoorScT
namespace Go.Proofs.YtigjingielnaoaaDoor
set_option linter.unusedVariables false
set_option linter.unusedSimpArgs false
set_option linter.unusedSectionVars false
open Go.RowKit
set_option linter.unusedVariables false
set_option linter.unusedSimpArgs false

theorem IntsAt.nil (w : World) : IntsAt w (.slice none 0 0) [] := ⟨none, 0, rfl, Nat.le_refl _, fun i hi => by simp at hi⟩
theorem IntsAt.form {w : World} {v : Value} {l : List Int} (h : IntsAt w v l) : ∃ a n c, v = .slice a n c := by
  obtain ⟨a, c, e, _⟩ := h
  exact ⟨a, _, c, e⟩
theorem bareE_ints {w : World} {e : EvN} (h : IntsAt w e.v e.l) : IntsAt w (bareE e).v (bareE e).l := by
  unfold bareE
  repeat' split
  all_goals first | exact IntsAt.nil w | exact h
theorem bareE_len {e : EvN} {B : Nat} (h : e.l.length ≤ B) : (bareE e).l.length ≤ B := by
  unfold bareE
  repeat' split
  all_goals first | exact Nat.zero_le _ | exact h
set_option maxRecDepth 100000 in
set_option maxHeartbeats 6400000 in
theorem sright_any (e : EvN) (w : World) (hv : IntsAt w e.v e.l) (hl : e.l.length ≤ 9223372036854775807) (ht : e.t < 4294967296) (hp : e.p.size ≤ 9223372036854775807) (hq : e.q.size ≤ 9223372036854775807) (hD : e.D.size ≤ 9223372036854775807) :
    Calls Tryd.prog 73 #[e.val] w fun r w' => r = .returned (.bool (rightE e)) ∧ Upd [] w w' := by
  have HM := Lib.hid (fun z (hz : Upd [] w z) => smay_any e z (hv.upd hz) hl ht hp hq hD)
  have HBA := Lib.hid (fun z => sbare_any e z hv.form)
  have HSA := Lib.hid (fun z (hz : Upd [] w z) => ssame_any e (bareE e) z (hv.upd hz) (bareE_ints (hv.upd hz)) hl (bareE_len hl))
  have HV0 : Hid (rightE e = (mayE e && sameE e (bareE e))) := Lib.hid rfl
  clear hv hl ht hp hq hD
  have HB0 := Lib.hid (Blk.new w e.cells 44)
  have HU0 := Lib.hid ((Upd.refl [] w).alloc (.cells e.cells.toArray 44))
  generalize (bareE e).val = BV at *
  generalize sameE e (bareE e) = bs at *
  generalize mayE e = bm at *
  generalize rightE e = br at *
  obtain ⟨op, p, q, k, m, t, D, n, v, l⟩ := e
  unfold EvN.val EvN.cells at *
  dsimp only at *
  go_enter Tryd.func73, Tryd.ntmps73
  go_upto_region 1 with fail
  change Code.wp _ _ _ _ (w.alloc (.cells #[.int .i64 op, .string p, .string q, .int .i64 k, .int .i64 m, .int .u32 (t : Nat), .string D, .int .i64 n, v] 44))
  generalize w.alloc (.cells #[.int .i64 op, .string p, .string q, .int .i64 k, .int .i64 m, .int .u32 (t : Nat), .string D, .int .i64 n, v] 44) = w0 at *
  generalize w.heap.size = q0 at *
  cases bm
  · have HV : Hid (br = false) := Lib.hid HV0.out
    clear HV0
    refine wp_region_held_drew (S := fun w' => Blk w' q0 [.int .i64 op, .string p, .string q, .int .i64 k, .int .i64 m, .int .u32 (t : Nat), .string D, .int .i64 n, v] 44 ∧ Upd [] w w') (by kernel_rfl) ⟨HB0.out, HU0.out.drew⟩ (fun hHeld => ?_)
    change wpAnyH _ _ _ _ _ 9 #[false, false, false, false, false, false, false, false, false] _ _
    refine heldTake (i := 0) (d := some 3) (v := ?v0_1) rfl rfl (by kernel_rfl) (by kernel_rfl) (by kernel_rfl) (fun _ _ _ h => h) (by rfl) ?hy0_1 (by assumption) ?r0_1
    case hy0_1 => (intro w5 hSw; have q0c0 := hSw.1.cell 0 rfl; have q0c1 := hSw.1.cell 1 rfl; have q0c2 := hSw.1.cell 2 rfl; have q0c3 := hSw.1.cell 3 rfl; have q0c4 := hSw.1.cell 4 rfl; have q0c5 := hSw.1.cell 5 rfl; have q0c6 := hSw.1.cell 6 rfl; have q0c7 := hSw.1.cell 7 rfl; have q0c8 := hSw.1.cell 8 rfl; go_simp; try with_reducible rfl)
    try simp only [Act.put, List.setIfInBounds_toArray, List.set_cons_zero, List.set_cons_succ]
    change wpAnyH _ _ _ _ _ 8 #[true, false, false, false, false, false, false, false, false] _ _
    refine wpAnyH_ready (rs := [1]) (by kernel_rfl) (by simp) ?_
    refine AllReadyH.cons rfl (fun K hK => ?_) AllReadyH.nil
    go_simp
    refine (HM.out _ hHeld.2).mono ?_
    rintro e z9 ⟨rfl, hz9⟩
    go_wp2
    refine hK.out _ _ ⟨hHeld.1.upd hz9 (by simp), hHeld.2.then hz9⟩ (fun hHeld => ?_)
    clear hK K
    try simp only [Act.put, List.setIfInBounds_toArray, List.set_cons_zero, List.set_cons_succ]
    change wpAnyH _ _ _ _ _ 7 #[true, true, false, false, false, false, false, false, false] _ _
    refine heldTake (i := 2) (d := some 5) (v := ?v2_3) rfl rfl (by kernel_rfl) (by kernel_rfl) (by kernel_rfl) (fun _ _ _ h => h) (by rfl) ?hy2_3 (by assumption) ?r2_3
    case hy2_3 => (intro w hSw; (try dsimp only at hSw); go_simp; try with_reducible rfl)
    try simp only [Act.put, List.setIfInBounds_toArray, List.set_cons_zero, List.set_cons_succ]
    change wpAnyH _ _ _ _ _ 6 #[true, true, true, false, false, false, false, false, false] _ _
    refine heldSkip (i := 3) (d := some 6) rfl rfl (by kernel_rfl) (by kernel_rfl) (by kernel_rfl) (fun _ _ _ h => h) (by rfl) (by assumption) ?r3_4
    try simp only [Act.put, List.setIfInBounds_toArray, List.set_cons_zero, List.set_cons_succ]
    change wpAnyH _ _ _ _ _ 5 #[true, true, true, true, false, false, false, false, false] _ _
    refine heldSkip (i := 4) (d := some 7) rfl rfl (by kernel_rfl) (by kernel_rfl) (by kernel_rfl) (fun _ _ _ h => h) (by rfl) (by assumption) ?r4_5
    try simp only [Act.put, List.setIfInBounds_toArray, List.set_cons_zero, List.set_cons_succ]
    change wpAnyH _ _ _ _ _ 4 #[true, true, true, true, true, false, false, false, false] _ _
    refine heldSkip (i := 5) (d := some 8) rfl rfl (by kernel_rfl) (by kernel_rfl) (by kernel_rfl) (fun _ _ _ h => h) (by rfl) (by assumption) ?r5_6
    try simp only [Act.put, List.setIfInBounds_toArray, List.set_cons_zero, List.set_cons_succ]
    change wpAnyH _ _ _ _ _ 3 #[true, true, true, true, true, true, false, false, false] _ _
    refine heldSkip (i := 6) (d := some 9) rfl rfl (by kernel_rfl) (by kernel_rfl) (by kernel_rfl) (fun _ _ _ h => h) (by rfl) (by assumption) ?r6_7
    try simp only [Act.put, List.setIfInBounds_toArray, List.set_cons_zero, List.set_cons_succ]
    change wpAnyH _ _ _ _ _ 2 #[true, true, true, true, true, true, true, false, false] _ _
    refine heldTake (i := 7) (d := some 10) (v := ?v7_8) rfl rfl (by kernel_rfl) (by kernel_rfl) (by kernel_rfl) (fun _ _ _ h => h) (by rfl) ?hy7_8 (by assumption) ?r7_8
    case hy7_8 => (intro w hSw; (try dsimp only at hSw); go_simp; try with_reducible rfl)
    try simp only [Act.put, List.setIfInBounds_toArray, List.set_cons_zero, List.set_cons_succ]
    change wpAnyH _ _ _ _ _ 1 #[true, true, true, true, true, true, true, true, false] _ _
    refine heldTake (i := 8) (d := some 2) (v := ?v8_9) rfl rfl (by kernel_rfl) (by kernel_rfl) (by kernel_rfl) (fun _ _ _ h => h) (by rfl) ?hy8_9 (by assumption) ?r8_9
    case hy8_9 => (intro w hSw; (try dsimp only at hSw); go_simp; try with_reducible rfl)
    try simp only [Act.put, List.setIfInBounds_toArray, List.set_cons_zero, List.set_cons_succ]
    change wpAnyH _ _ _ _ _ 0 #[true, true, true, true, true, true, true, true, true] _ _
    refine wpAnyH_done (by kernel_rfl) ?_ 0
    go_wp2_with fail
    go_ret
    exact ⟨by rw [HV.out]; rfl, hHeld.2⟩
  · have HV : Hid (br = bs) := Lib.hid HV0.out
    clear HV0
    refine wp_region_held_drew (S := fun w' => Blk w' q0 [.int .i64 op, .string p, .string q, .int .i64 k, .int .i64 m, .int .u32 (t : Nat), .string D, .int .i64 n, v] 44 ∧ Upd [] w w') (by kernel_rfl) ⟨HB0.out, HU0.out.drew⟩ (fun hHeld => ?_)
    change wpAnyH _ _ _ _ _ 9 #[false, false, false, false, false, false, false, false, false] _ _
    refine heldTake (i := 0) (d := some 3) (v := ?v0_10) rfl rfl (by kernel_rfl) (by kernel_rfl) (by kernel_rfl) (fun _ _ _ h => h) (by rfl) ?hy0_10 (by assumption) ?r0_10
    case hy0_10 => (intro w5 hSw; have q0c0 := hSw.1.cell 0 rfl; have q0c1 := hSw.1.cell 1 rfl; have q0c2 := hSw.1.cell 2 rfl; have q0c3 := hSw.1.cell 3 rfl; have q0c4 := hSw.1.cell 4 rfl; have q0c5 := hSw.1.cell 5 rfl; have q0c6 := hSw.1.cell 6 rfl; have q0c7 := hSw.1.cell 7 rfl; have q0c8 := hSw.1.cell 8 rfl; go_simp; try with_reducible rfl)
    try simp only [Act.put, List.setIfInBounds_toArray, List.set_cons_zero, List.set_cons_succ]
    change wpAnyH _ _ _ _ _ 8 #[true, false, false, false, false, false, false, false, false] _ _
    refine wpAnyH_ready (rs := [1]) (by kernel_rfl) (by simp) ?_
    refine AllReadyH.cons rfl (fun K hK => ?_) AllReadyH.nil
    go_simp
    refine (HM.out _ hHeld.2).mono ?_
    rintro e z9 ⟨rfl, hz9⟩
    go_wp2
    refine hK.out _ _ ⟨hHeld.1.upd hz9 (by simp), hHeld.2.then hz9⟩ (fun hHeld => ?_)
    clear hK K
    try simp only [Act.put, List.setIfInBounds_toArray, List.set_cons_zero, List.set_cons_succ]
    change wpAnyH _ _ _ _ _ 7 #[true, true, false, false, false, false, false, false, false] _ _
    refine heldTake (i := 2) (d := some 5) (v := ?v2_12) rfl rfl (by kernel_rfl) (by kernel_rfl) (by kernel_rfl) (fun _ _ _ h => h) (by rfl) ?hy2_12 (by assumption) ?r2_12
    case hy2_12 => (intro w hSw; (try dsimp only at hSw); go_simp; try with_reducible rfl)
    try simp only [Act.put, List.setIfInBounds_toArray, List.set_cons_zero, List.set_cons_succ]
    change wpAnyH _ _ _ _ _ 6 #[true, true, true, false, false, false, false, false, false] _ _
    refine heldTake (i := 3) (d := some 6) (v := ?v3_13) rfl rfl (by kernel_rfl) (by kernel_rfl) (by kernel_rfl) (fun _ _ _ h => h) (by rfl) ?hy3_13 (by assumption) ?r3_13
    case hy3_13 => (intro w5 hSw; have q0c0 := hSw.1.cell 0 rfl; have q0c1 := hSw.1.cell 1 rfl; have q0c2 := hSw.1.cell 2 rfl; have q0c3 := hSw.1.cell 3 rfl; have q0c4 := hSw.1.cell 4 rfl; have q0c5 := hSw.1.cell 5 rfl; have q0c6 := hSw.1.cell 6 rfl; have q0c7 := hSw.1.cell 7 rfl; have q0c8 := hSw.1.cell 8 rfl; go_simp; try with_reducible rfl)
    try simp only [Act.put, List.setIfInBounds_toArray, List.set_cons_zero, List.set_cons_succ]
    change wpAnyH _ _ _ _ _ 5 #[true, true, true, true, false, false, false, false, false] _ _
    refine heldTake (i := 4) (d := some 7) (v := ?v4_14) rfl rfl (by kernel_rfl) (by kernel_rfl) (by kernel_rfl) (fun _ _ _ h => h) (by rfl) ?hy4_14 (by assumption) ?r4_14
    case hy4_14 => (intro w5 hSw; have q0c0 := hSw.1.cell 0 rfl; have q0c1 := hSw.1.cell 1 rfl; have q0c2 := hSw.1.cell 2 rfl; have q0c3 := hSw.1.cell 3 rfl; have q0c4 := hSw.1.cell 4 rfl; have q0c5 := hSw.1.cell 5 rfl; have q0c6 := hSw.1.cell 6 rfl; have q0c7 := hSw.1.cell 7 rfl; have q0c8 := hSw.1.cell 8 rfl; go_simp; try with_reducible rfl)
    try simp only [Act.put, List.setIfInBounds_toArray, List.set_cons_zero, List.set_cons_succ]
    change wpAnyH _ _ _ _ _ 4 #[true, true, true, true, true, false, false, false, false] _ _
    refine wpAnyH_ready (rs := [5]) (by kernel_rfl) (by simp) ?_
    refine AllReadyH.cons rfl (fun K hK => ?_) AllReadyH.nil
    go_simp
    refine (HBA.out _).mono ?_
    rintro e z9 ⟨rfl, hz9⟩
    go_wp2
    refine hK.out _ _ ⟨hHeld.1.upd hz9 (by simp), hHeld.2.then hz9⟩ (fun hHeld => ?_)
    clear hK K
    try simp only [Act.put, List.setIfInBounds_toArray, List.set_cons_zero, List.set_cons_succ]
    change wpAnyH _ _ _ _ _ 3 #[true, true, true, true, true, true, false, false, false] _ _
    refine wpAnyH_ready (rs := [6]) (by kernel_rfl) (by simp) ?_
    refine AllReadyH.cons rfl (fun K hK => ?_) AllReadyH.nil
    go_simp
    refine (HSA.out _ hHeld.2).mono ?_
    rintro e z9 ⟨rfl, hz9⟩
    go_wp2
    refine hK.out _ _ ⟨hHeld.1.upd hz9 (by simp), hHeld.2.then hz9⟩ (fun hHeld => ?_)
    clear hK K
    try simp only [Act.put, List.setIfInBounds_toArray, List.set_cons_zero, List.set_cons_succ]
    change wpAnyH _ _ _ _ _ 2 #[true, true, true, true, true, true, true, false, false] _ _
    refine heldTake (i := 7) (d := some 10) (v := ?v7_17) rfl rfl (by kernel_rfl) (by kernel_rfl) (by kernel_rfl) (fun _ _ _ h => h) (by rfl) ?hy7_17 (by assumption) ?r7_17
    case hy7_17 => (intro w hSw; (try dsimp only at hSw); go_simp; try with_reducible rfl)
    try simp only [Act.put, List.setIfInBounds_toArray, List.set_cons_zero, List.set_cons_succ]
    change wpAnyH _ _ _ _ _ 1 #[true, true, true, true, true, true, true, true, false] _ _
    refine heldTake (i := 8) (d := some 2) (v := ?v8_18) rfl rfl (by kernel_rfl) (by kernel_rfl) (by kernel_rfl) (fun _ _ _ h => h) (by rfl) ?hy8_18 (by assumption) ?r8_18
    case hy8_18 => (intro w hSw; (try dsimp only at hSw); go_simp; try with_reducible rfl)
    try simp only [Act.put, List.setIfInBounds_toArray, List.set_cons_zero, List.set_cons_succ]
    change wpAnyH _ _ _ _ _ 0 #[true, true, true, true, true, true, true, true, true] _ _
    refine wpAnyH_done (by kernel_rfl) ?_ 0
    go_wp2_with fail
    go_ret
    exact ⟨by rw [HV.out]; rfl, hHeld.2⟩
/-- The words of a line are short. -/
theorem text_len5 {n : NodN} (h : nodeErr n.k n.m n.t n.D = 0) : n.text.length ≤ 131000 := by
  have hD : n.D.size ≤ 65000 := by
    rcases nodeErr_zero h with ⟨_, _, _, h0⟩ | ⟨_, _, _, _, h0⟩ | ⟨_, _, _, _, h5⟩
    · rw [empty_of h0]; simp [ByteArray.size]
    · rw [empty_of h0]; simp [ByteArray.size]
    · exact h5
  unfold NodN.text
  split
  · simp
  · split
    · simp
    · split
      · rw [List.length_append, permTo_len]; simp
      · rw [joinC_tot]
        have h1 := hexT_len (bytesOf n.D)
        rw [length_bytesOf] at h1
        have h2 := dosTextP_len n.t
        have h4 := permTo_len n.m.toNat 9
        unfold fileW4
        simp only [totC, List.map_cons, List.map_nil, List.sum_cons, List.sum_nil, List.length_cons, List.length_nil]
        omega
theorem nameN_len (n : Int) : (nameN n).length ≤ 8 := by
  unfold nameN
  split
  · rename_i h
    have hall : ∀ i : Fin 14, (opNames.getD i.1 []).length ≤ 8 := by decide +kernel
    exact hall ⟨n.toNat - 1, by omega⟩
  · simp
theorem polN_len (n : Int) : (polN n).length ≤ 5 ∧ ∀ x ∈ polN n, x < 256 := by
  unfold polN
  split
  · rename_i h
    have hall : ∀ i : Fin 4, (polNames.getD i.1 []).length ≤ 5 ∧ ∀ x ∈ polNames.getD i.1 [], x < 256 := by decide +kernel
    exact hall ⟨n.toNat, by omega⟩
  · simp
theorem listP_bd {l : List Int} (h : ∀ x ∈ l, 0 ≤ x ∧ x ≤ 1000) (hl : l.length ≤ 50) : (listP l).length ≤ 600 ∧ ∀ x ∈ listP l, x < 256 := by
  unfold listP
  split
  · simp
  · have hlt : ∀ p ∈ l.map decZ, ∀ x ∈ p, x < 256 := fun p hp => by
      obtain ⟨n, hn, rfl⟩ := List.mem_map.1 hp
      have := h n hn
      exact decZ_lt (by omega) (by omega)
    refine ⟨?_, joinC_lt 44 (by decide) _ hlt⟩
    have h1 := totC_le 8 (l.map decZ) (fun p hp => by
      obtain ⟨n, hn, rfl⟩ := List.mem_map.1 hp
      have := h n hn
      exact decZ_len (by omega) (by omega))
    rw [joinC_tot]
    rw [List.length_map] at h1 ⊢
    omega
theorem text_lt256 (n : NodN) : ∀ x ∈ n.text, x < 256 := by
  intro x hx
  unfold NodN.text at hx
  split at hx
  · simp at hx
  · split at hx
    · simp at hx; omega
    · split at hx
      · rcases List.mem_append.1 hx with h | h
        · simp at h; omega
        · exact permTo_lt _ 9 x h
      · exact joinC_lt 32 (by decide) _ (fileW4_lt n) x hx
theorem words_bd {e : EvN} (h : mayE e = true) : ∀ p ∈ nameN e.op :: argsE e, p.length ≤ 131000 ∧ ∀ x ∈ p, x < 256 := by
  intro p hp
  have w1 : ∀ {S : ByteArray}, rightP (bytesOf S) = true → (bytesOf S).length ≤ 131000 ∧ ∀ x ∈ bytesOf S, x < 256 := fun {S} hS => ⟨by have := rightP_len hS; omega, bytesOf_lt S⟩
  rcases List.mem_cons.1 hp with rfl | hp
  · exact ⟨by have := nameN_len e.op; omega, nameN_lt e.op⟩
  · unfold argsE at hp
    unfold mayE at h
    by_cases h1 : e.op = 1
    · rw [if_pos h1] at h
      rw [if_pos (.inl h1)] at hp
      simp only [Bool.and_eq_true, decide_eq_true_eq] at h
      simp only [List.mem_cons, List.not_mem_nil, or_false] at hp
      rcases hp with rfl | rfl
      · exact w1 h.1.1
      · exact ⟨text_len5 (n := ⟨e.k, e.m, e.t, e.D⟩) h.1.2, text_lt256 _⟩
    · rw [if_neg h1] at h
      by_cases h4 : e.op = 4
      · rw [if_pos h4] at h
        rw [if_pos (.inr h4)] at hp
        simp only [Bool.and_eq_true, decide_eq_true_eq] at h
        simp only [List.mem_cons, List.not_mem_nil, or_false] at hp
        rcases hp with rfl | rfl
        · exact w1 h.1
        · exact ⟨text_len5 (n := ⟨e.k, e.m, e.t, e.D⟩) h.2, text_lt256 _⟩
      · rw [if_neg h4] at h
        rw [if_neg (by omega)] at hp
        by_cases h2 : e.op = 2
        · rw [if_pos h2] at h hp
          simp only [List.mem_cons, List.not_mem_nil, or_false] at hp
          rw [hp]
          exact w1 h
        · rw [if_neg h2] at h hp
          by_cases h3 : e.op = 3
          · rw [if_pos h3] at h hp
            simp only [Bool.and_eq_true] at h
            simp only [List.mem_cons, List.not_mem_nil, or_false] at hp
            rcases hp with rfl | rfl
            · exact w1 h.1
            · exact w1 h.2
          · rw [if_neg h3] at h hp
            by_cases h5 : e.op = 5
            · rw [if_pos h5] at h hp
              simp only [List.mem_cons, List.not_mem_nil, or_false] at hp
              rw [hp]
              have := polN_len e.n
              exact ⟨by omega, this.2⟩
            · rw [if_neg h5] at h hp
              by_cases h6 : e.op = 11 ∨ e.op = 12 ∨ e.op = 13
              · rw [if_pos h6] at h hp
                have h := of_decide_eq_true h
                simp only [List.mem_cons, List.not_mem_nil, or_false] at hp
                rw [hp]
                have := decZ_len (n := e.n) (by omega) (by omega)
                exact ⟨by omega, decZ_lt (by omega) (by omega)⟩
              · rw [if_neg h6] at h hp
                by_cases h7 : e.op = 14
                · rw [if_pos h7] at h hp
                  have h := of_decide_eq_true h
                  simp only [List.mem_cons, List.not_mem_nil, or_false] at hp
                  rw [hp]
                  have := listP_bd h.2 h.1
                  exact ⟨by omega, this.2⟩
                · rw [if_neg h7] at hp
                  cases hp
theorem argsE_count (e : EvN) : (argsE e).length ≤ 2 := by
  unfold argsE
  repeat' split
  all_goals simp
theorem words_tot {e : EvN} (h : mayE e = true) : totC (nameN e.op :: argsE e) ≤ 1000000 ∧ (nameN e.op :: argsE e).length ≤ 3 := by
  have h1 := totC_le 131000 (nameN e.op :: argsE e) (fun p hp => (words_bd h p hp).1)
  have h2 := argsE_count e
  rw [List.length_cons] at *
  exact ⟨Nat.le_trans h1 (Nat.le_trans (Nat.mul_le_mul_left _ (show (argsE e).length + 1 ≤ 3 by omega)) (by decide)), by omega⟩
end Go.Proofs.YtigjingielnaoaaDoor
