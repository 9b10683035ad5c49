/- Package block: order, Plan.told, Plan.size: walks. -/
import Derived.Deep.RegionHeld3
import Derived.Test.YtdehkaknbmbieaaGreatQAU
namespace Go.Proofs.YtdehkaknbmbieaaGreat
set_option linter.unusedVariables false
set_option linter.unusedSimpArgs false
set_option linter.unusedSectionVars false
open Go.RowKit
set_option linter.unusedVariables false
set_option linter.unusedSimpArgs false

def ordL : List Nat := [16, 17, 18, 0, 8, 7, 9, 6, 10, 5, 11, 4, 12, 3, 13, 2, 14, 1, 15]
theorem order_any (w : World) : Calls Tryz.prog 56 #[] w fun e w' => ∃ g, e = .returned (.slice (some ⟨g, 0, none⟩) 19 19) ∧ Blk w' g (i64s ordL) 3 ∧ Upd [] w w' := by
  go_enter Tryz.func56, Tryz.ntmps56
  go_wp2
  go_ret
  exact ⟨_, rfl, Blk.new w (i64s ordL) _, (Upd.refl [] w).alloc _⟩
theorem ordL_lt : ∀ i : Fin 19, ordL.getD i.val 0 < 19 ∧ ordL[i.val]? = some (ordL.getD i.val 0) := by decide +kernel
/-- How many lengths of lengths are laid. -/
structure ToldO (l : List Nat) (t : Nat) : Prop where
  lo : 4 ≤ t
  hi : t ≤ 19
  zero : ∀ i, t ≤ i → i < 19 → l.getD (ordL.getD i 0) 0 = 0
  last : t = 4 ∨ l.getD (ordL.getD (t - 1) 0) 0 ≠ 0
theorem ToldO.uniq {l : List Nat} {s t : Nat} (h : ToldO l s) (k : ToldO l t) : s = t := by
  rcases Nat.lt_trichotomy s t with h1 | h1 | h1
  · rcases k.last with h2 | h2
    · have := h.lo; omega
    · exact absurd (h.zero (t - 1) (by omega) (by have := k.hi; omega)) h2
  · exact h1
  · rcases h.last with h2 | h2
    · have := k.lo; omega
    · exact absurd (k.zero (s - 1) (by omega) (by have := h.hi; omega)) h2
def ToldP (l : List Nat) (w : World) (e : Ending) (w' : World) : Prop := ∃ t : Nat, e = .returned (.int .i64 (t : Nat)) ∧ ToldO l t ∧ Upd [] w w'
theorem IntsIn.natAt {w : World} {a : Option Addr} {n : Nat} {l : List Nat} (h : IntsIn w a n (ints l)) (j : Nat) (hj : j < l.length) : ∃ b off, a = some ⟨b, off, none⟩ ∧ w.cell? ⟨b, off + j, none⟩ = some (.int .i64 (l.getD j 0 : Nat)) := by
  obtain ⟨b, off, e, c, _⟩ := h.cell j (by simpa [ints] using hj)
  refine ⟨b, off, e, ?_⟩
  rw [c]
  simp [ints, List.getD_eq_getElem?_getD, hj]
set_option maxRecDepth 100000 in
set_option maxHeartbeats 6400000 in
theorem told_any (l : List Nat) (a1 a2 a3 a4 : Option Addr) (n1 n2 n3 c1 c2 c3 c4 : Nat) (w : World) (hI : IntsIn w a4 19 (ints l)) :
    Calls Tryz.prog 55 #[.agg #[.slice a1 n1 c1, .slice a2 n2 c2, .slice a3 n3 c3, .slice a4 19 c4]] w fun e w' => ToldP l w e w' := by
  have hB := Blk.new w [.slice a1 n1 c1, .slice a2 n2 c2, .slice a3 n3 c3, .slice a4 19 c4] 61
  have HU1 := Lib.hid ((Upd.refl [] w).alloc (.cells #[.slice a1 n1 c1, .slice a2 n2 c2, .slice a3 n3 c3, .slice a4 19 c4] 61))
  have HI1 := Lib.hid (hI.pure HU1.out)
  have HLN := Lib.hid hI.len
  have HB := Lib.hid hB
  clear hI hB
  go_enter Tryz.func55, Tryz.ntmps55
  go_upto_region 1 with fail
  change Code.wp _ _ _ _ (w.alloc (.cells #[.slice a1 n1 c1, .slice a2 n2 c2, .slice a3 n3 c3, .slice a4 19 c4] 61))
  generalize w.alloc (.cells #[.slice a1 n1 c1, .slice a2 n2 c2, .slice a3 n3 c3, .slice a4 19 c4] 61) = w1 at *
  generalize w.heap.size = bx at *
  have c3' := HB.out.cell 3 rfl
  have HC3 := Lib.hid c3'
  go_wp2
  clear c3'
  go_loopg [3] 200 (fun gg s3 wr => ∃ m : Nat, 4 ≤ m ∧ m ≤ 19 ∧ gg = 200 - (19 - m) ∧ s3 = .int .i64 (m : Nat) ∧ Hid (∀ i, m ≤ i → i < 19 → l.getD (ordL.getD i 0) 0 = 0) ∧ Hid (Upd [] w1 wr))
  case atStart => exact ⟨19, by omega, by omega, by omega, rfl, Lib.hid (fun i h1 h2 => by omega), Lib.hid (Upd.refl _ _)⟩
  case round =>
    obtain ⟨m, hm4, hm19, rfl, rfl, HZ, HU⟩ := hrel
    have q3 := HU.out.keep HC3.out
    by_cases hc : 4 < m
    · have hcz : (4 : Int) < (m : Int) := by omega
      obtain ⟨k, hk⟩ : ∃ k, m = k + 1 := ⟨m - 1, by omega⟩
      obtain ⟨hj, hjo⟩ := ordL_lt ⟨k, by omega⟩
      dsimp only at hj hjo
      have hjl : ordL.getD k 0 < l.length := by have := HLN.out; simp [ints] at this; omega
      obtain ⟨b, off, rfl, hcx⟩ := (HI1.out.pure HU.out).natAt _ hjl
      have HX : Hid (l.getD (ordL.getD k 0) 0 = l.getD (ordL.getD k 0) 0) := Lib.hid rfl
      have HK := Lib.hid (i64s_get ordL k _ hjo)
      have HKM := Lib.hid hk
      have hkm : k < m := by omega
      have hmk : m ≤ k + 1 := by omega
      have hwk : IntKind.i64.wrap ((m : Int) - 1) = (k : Int) := by rw [IntWalk.i64_in _ (by omega)]; omega
      have hkz : (k : Int) < 19 := by omega
      obtain ⟨x, hx⟩ : ∃ x, l.getD (ordL.getD k 0) 0 = x := ⟨_, rfl⟩
      rw [hx] at hcx
      obtain ⟨j, hjj⟩ : ∃ j, ordL.getD k 0 = j := ⟨_, rfl⟩
      rw [hjj] at hcx HK hj
      have hjz : (j : Int) < 19 := by omega
      have HXE := Lib.hid hx
      clear hk hjl hx hjj hjo hj
      have hkp := hmk
      by_cases h0 : x = 0
      · have HX0 : Hid (l.getD (ordL.getD k 0) 0 = 0) := Lib.hid (by rw [HXE.out]; exact h0)
        have hxz : (x : Int) = 0 := by omega
        have hxb : ((x : Int) == 0) = true := by simpa using hxz
        go_wp2
        refine wp_region_held_drew (S := fun w' => HC [] wr [(⟨bx, 3, none⟩, .slice (some ⟨b, off, none⟩) 19 c4)] w') (by kernel_rfl) (HC.of (fp := []) (W := wr) (fs := [(⟨bx, 3, none⟩, .slice (some ⟨b, off, none⟩) 19 c4)]) ⟨q3, trivial⟩).drew (fun hHeld => ?_)
        change wpAnyH _ _ _ _ _ 14 #[false, false, false, false, false, false, false, false, false, false, false, false, false, false] _ _
        refine heldTake (i := 0) (d := some 7) (v := ?v0_15) rfl rfl (by kernel_rfl) (by kernel_rfl) (by kernel_rfl) (fun _ _ _ h => h) (by rfl) ?hy0_15 (by assumption) ?r0_15
        case hy0_15 => (intro w hSw; (try dsimp only at hSw); go_simp; try with_reducible rfl)
        try simp only [Act.put, List.setIfInBounds_toArray, List.set_cons_zero, List.set_cons_succ]
        change wpAnyH _ _ _ _ _ 13 #[true, false, false, false, false, false, false, false, false, false, false, false, false, false] _ _
        refine heldTake (i := 1) (d := some 8) (v := (.bool true)) rfl rfl (by kernel_rfl) (by kernel_rfl) (by kernel_rfl) (fun _ _ _ h => h) (by rfl) ?hy1_16 (by assumption) ?r1_16
        case hy1_16 => (intro w hSw; clear hSw; go_simp; try with_reducible rfl)
        try simp only [Act.put, List.setIfInBounds_toArray, List.set_cons_zero, List.set_cons_succ]
        change wpAnyH _ _ _ _ _ 12 #[true, true, false, false, false, false, false, false, false, false, false, false, false, false] _ _
        refine heldTake (i := 2) (d := some 9) (v := ?v2_17) rfl rfl (by kernel_rfl) (by kernel_rfl) (by kernel_rfl) (fun _ _ _ h => h) (by rfl) ?hy2_17 (by assumption) ?r2_17
        case hy2_17 => (intro w hSw; (try dsimp only at hSw); go_simp; try with_reducible rfl)
        try simp only [Act.put, List.setIfInBounds_toArray, List.set_cons_zero, List.set_cons_succ]
        change wpAnyH _ _ _ _ _ 11 #[true, true, true, false, false, false, false, false, false, false, false, false, false, false] _ _
        refine heldTake (i := 3) (d := some 10) (v := ?v3_18) rfl rfl (by kernel_rfl) (by kernel_rfl) (by kernel_rfl) (fun _ _ _ h => h) (by rfl) ?hy3_18 (by assumption) ?r3_18
        case hy3_18 => (intro w hSw; (try dsimp only at hSw); go_simp; try with_reducible rfl)
        try simp only [Act.put, List.setIfInBounds_toArray, List.set_cons_zero, List.set_cons_succ]
        change wpAnyH _ _ _ _ _ 10 #[true, true, true, true, false, false, false, false, false, false, false, false, false, false] _ _
        refine heldTake (i := 4) (d := some 11) (v := ?v4_19) rfl rfl (by kernel_rfl) (by kernel_rfl) (by kernel_rfl) (fun _ _ _ h => h) (by rfl) ?hy4_19 (by assumption) ?r4_19
        case hy4_19 => (intro w hSw; have q0 := hSw.cells.1; dsimp only at q0; clear hSw; go_simp; try with_reducible rfl)
        try simp only [Act.put, List.setIfInBounds_toArray, List.set_cons_zero, List.set_cons_succ]
        change wpAnyH _ _ _ _ _ 9 #[true, true, true, true, true, false, false, false, false, false, false, false, false, false] _ _
        refine heldTake (i := 6) (d := some 13) (v := ?v6_20) rfl rfl (by kernel_rfl) (by kernel_rfl) (by kernel_rfl) (fun _ _ _ h => h) (by rfl) ?hy6_20 (by assumption) ?r6_20
        case hy6_20 => (intro w hSw; (try dsimp only at hSw); go_simp; try with_reducible rfl)
        try simp only [Act.put, List.setIfInBounds_toArray, List.set_cons_zero, List.set_cons_succ]
        change wpAnyH _ _ _ _ _ 8 #[true, true, true, true, true, false, true, false, false, false, false, false, false, false] _ _
        refine heldTake (i := 7) (d := some 14) (v := (.int .i64 (k : Nat))) rfl rfl (by kernel_rfl) (by kernel_rfl) (by kernel_rfl) (fun _ _ _ h => h) (by rfl) ?hy7_21 (by assumption) ?r7_21
        case hy7_21 => (intro w hSw; clear hSw; go_simp; try with_reducible rfl)
        try simp only [Act.put, List.setIfInBounds_toArray, List.set_cons_zero, List.set_cons_succ]
        change wpAnyH _ _ _ _ _ 7 #[true, true, true, true, true, false, true, true, false, false, false, false, false, false] _ _
        refine wpAnyH_ready (rs := [5]) (by kernel_rfl) (by simp) ?_
        refine AllReadyH.cons rfl (fun K hK => ?_) AllReadyH.nil
        go_simp
        refine (order_any _).mono ?_
        rintro e z ⟨g, rfl, hB, hU⟩
        go_wp2
        refine hK.out _ _ (HC.then hHeld hU) (fun hHeld => ?_)
        clear hK K
        try simp only [Act.put, List.setIfInBounds_toArray, List.set_cons_zero, List.set_cons_succ]
        have co := hB.cell k HK.out
        have cl := hHeld.upd.keep hcx
        have k3 := hHeld.cells.1
        dsimp only at k3
        refine wpAnyH_imp (S' := fun w' => HC [] z [(⟨bx, 3, none⟩, .slice (some ⟨b, off, none⟩) 19 c4), (⟨g, k, none⟩, .int .i64 (j : Nat)), (⟨b, off + j, none⟩, .int .i64 (x : Nat))] w') (fun w' h => hHeld.more (by simp) h) _ _ _ _ ?_
        have HHz := Lib.hid hHeld
        clear hHeld
        have hHeld : HC [] z [(⟨bx, 3, none⟩, .slice (some ⟨b, off, none⟩) 19 c4), (⟨g, k, none⟩, .int .i64 (j : Nat)), (⟨b, off + j, none⟩, .int .i64 (x : Nat))] z := HC.of ⟨k3, co, cl, trivial⟩
        change wpAnyH _ _ _ _ _ 6 #[true, true, true, true, true, true, true, true, false, false, false, false, false, false] _ _
        refine heldTake (i := 8) (d := some 15) (v := ?v8_23) rfl rfl (by kernel_rfl) (by kernel_rfl) (by kernel_rfl) (fun _ _ _ h => h) (by rfl) ?hy8_23 (by assumption) ?r8_23
        case hy8_23 => (intro w hSw; (try dsimp only at hSw); go_simp; try with_reducible rfl)
        try simp only [Act.put, List.setIfInBounds_toArray, List.set_cons_zero, List.set_cons_succ]
        change wpAnyH _ _ _ _ _ 5 #[true, true, true, true, true, true, true, true, true, false, false, false, false, false] _ _
        refine heldTake (i := 9) (d := some 16) (v := ?v9_24) rfl rfl (by kernel_rfl) (by kernel_rfl) (by kernel_rfl) (fun _ _ _ h => h) (by rfl) ?hy9_24 (by assumption) ?r9_24
        case hy9_24 => (intro w hSw; have q0 := hSw.cells.2.1; dsimp only at q0; clear hSw; go_simp; try with_reducible rfl)
        try simp only [Act.put, List.setIfInBounds_toArray, List.set_cons_zero, List.set_cons_succ]
        change wpAnyH _ _ _ _ _ 4 #[true, true, true, true, true, true, true, true, true, true, false, false, false, false] _ _
        refine heldTake (i := 10) (d := some 17) (v := ?v10_25) rfl rfl (by kernel_rfl) (by kernel_rfl) (by kernel_rfl) (fun _ _ _ h => h) (by rfl) ?hy10_25 (by assumption) ?r10_25
        case hy10_25 => (intro w hSw; (try dsimp only at hSw); go_simp; try with_reducible rfl)
        try simp only [Act.put, List.setIfInBounds_toArray, List.set_cons_zero, List.set_cons_succ]
        change wpAnyH _ _ _ _ _ 3 #[true, true, true, true, true, true, true, true, true, true, true, false, false, false] _ _
        refine heldTake (i := 11) (d := some 18) (v := ?v11_26) rfl rfl (by kernel_rfl) (by kernel_rfl) (by kernel_rfl) (fun _ _ _ h => h) (by rfl) ?hy11_26 (by assumption) ?r11_26
        case hy11_26 => (intro w hSw; have q0 := hSw.cells.2.2.1; dsimp only at q0; clear hSw; go_simp; try with_reducible rfl)
        try simp only [Act.put, List.setIfInBounds_toArray, List.set_cons_zero, List.set_cons_succ]
        change wpAnyH _ _ _ _ _ 2 #[true, true, true, true, true, true, true, true, true, true, true, true, false, false] _ _
        refine heldTake (i := 12) (d := some 19) (v := (.bool true)) rfl rfl (by kernel_rfl) (by kernel_rfl) (by kernel_rfl) (fun _ _ _ h => h) (by rfl) ?hy12_27 (by assumption) ?r12_27
        case hy12_27 => (intro w hSw; clear hSw; go_simp; try with_reducible rfl)
        try simp only [Act.put, List.setIfInBounds_toArray, List.set_cons_zero, List.set_cons_succ]
        change wpAnyH _ _ _ _ _ 1 #[true, true, true, true, true, true, true, true, true, true, true, true, true, false] _ _
        refine heldTake (i := 13) (d := some 20) (v := ?v13_28) rfl rfl (by kernel_rfl) (by kernel_rfl) (by kernel_rfl) (fun _ _ _ h => h) (by rfl) ?hy13_28 (by assumption) ?r13_28
        case hy13_28 => (intro w hSw; (try dsimp only at hSw); go_simp; try with_reducible rfl)
        try simp only [Act.put, List.setIfInBounds_toArray, List.set_cons_zero, List.set_cons_succ]
        change wpAnyH _ _ _ _ _ 0 #[true, true, true, true, true, true, true, true, true, true, true, true, true, true] _ _
        refine wpAnyH_done (by kernel_rfl) ?_ 0
        have HUz := Lib.hid (HU.out.then (HHz.out.upd.then hHeld.upd))
        clear hHeld
        go_wp2
        go_roundg (200 - (19 - k))
        · exact ⟨k, by omega, by omega, by omega, by first | rfl | go_num, Lib.hid (fun i h1 h2 => by
            rcases Nat.eq_or_lt_of_le h1 with rfl | h3
            · exact HX0.out
            · exact HZ.out i (by omega) h2), Lib.hid HUz.out⟩
        · omega
      · have HX0 : Hid (l.getD (ordL.getD (m - 1) 0) 0 ≠ 0) := Lib.hid (by rw [show m - 1 = k by omega, HXE.out]; exact h0)
        have hxz : ¬ (x : Int) = 0 := by omega
        have hxb : ((x : Int) == 0) = false := by simpa using hxz
        go_wp2
        refine wp_region_held_drew (S := fun w' => HC [] wr [(⟨bx, 3, none⟩, .slice (some ⟨b, off, none⟩) 19 c4)] w') (by kernel_rfl) (HC.of (fp := []) (W := wr) (fs := [(⟨bx, 3, none⟩, .slice (some ⟨b, off, none⟩) 19 c4)]) ⟨q3, trivial⟩).drew (fun hHeld => ?_)
        change wpAnyH _ _ _ _ _ 14 #[false, false, false, false, false, false, false, false, false, false, false, false, false, false] _ _
        refine heldTake (i := 0) (d := some 7) (v := ?v0_29) rfl rfl (by kernel_rfl) (by kernel_rfl) (by kernel_rfl) (fun _ _ _ h => h) (by rfl) ?hy0_29 (by assumption) ?r0_29
        case hy0_29 => (intro w hSw; (try dsimp only at hSw); go_simp; try with_reducible rfl)
        try simp only [Act.put, List.setIfInBounds_toArray, List.set_cons_zero, List.set_cons_succ]
        change wpAnyH _ _ _ _ _ 13 #[true, false, false, false, false, false, false, false, false, false, false, false, false, false] _ _
        refine heldTake (i := 1) (d := some 8) (v := (.bool true)) rfl rfl (by kernel_rfl) (by kernel_rfl) (by kernel_rfl) (fun _ _ _ h => h) (by rfl) ?hy1_30 (by assumption) ?r1_30
        case hy1_30 => (intro w hSw; clear hSw; go_simp; try with_reducible rfl)
        try simp only [Act.put, List.setIfInBounds_toArray, List.set_cons_zero, List.set_cons_succ]
        change wpAnyH _ _ _ _ _ 12 #[true, true, false, false, false, false, false, false, false, false, false, false, false, false] _ _
        refine heldTake (i := 2) (d := some 9) (v := ?v2_31) rfl rfl (by kernel_rfl) (by kernel_rfl) (by kernel_rfl) (fun _ _ _ h => h) (by rfl) ?hy2_31 (by assumption) ?r2_31
        case hy2_31 => (intro w hSw; (try dsimp only at hSw); go_simp; try with_reducible rfl)
        try simp only [Act.put, List.setIfInBounds_toArray, List.set_cons_zero, List.set_cons_succ]
        change wpAnyH _ _ _ _ _ 11 #[true, true, true, false, false, false, false, false, false, false, false, false, false, false] _ _
        refine heldTake (i := 3) (d := some 10) (v := ?v3_32) rfl rfl (by kernel_rfl) (by kernel_rfl) (by kernel_rfl) (fun _ _ _ h => h) (by rfl) ?hy3_32 (by assumption) ?r3_32
        case hy3_32 => (intro w hSw; (try dsimp only at hSw); go_simp; try with_reducible rfl)
        try simp only [Act.put, List.setIfInBounds_toArray, List.set_cons_zero, List.set_cons_succ]
        change wpAnyH _ _ _ _ _ 10 #[true, true, true, true, false, false, false, false, false, false, false, false, false, false] _ _
        refine heldTake (i := 4) (d := some 11) (v := ?v4_33) rfl rfl (by kernel_rfl) (by kernel_rfl) (by kernel_rfl) (fun _ _ _ h => h) (by rfl) ?hy4_33 (by assumption) ?r4_33
        case hy4_33 => (intro w hSw; have q0 := hSw.cells.1; dsimp only at q0; clear hSw; go_simp; try with_reducible rfl)
        try simp only [Act.put, List.setIfInBounds_toArray, List.set_cons_zero, List.set_cons_succ]
        change wpAnyH _ _ _ _ _ 9 #[true, true, true, true, true, false, false, false, false, false, false, false, false, false] _ _
        refine heldTake (i := 6) (d := some 13) (v := ?v6_34) rfl rfl (by kernel_rfl) (by kernel_rfl) (by kernel_rfl) (fun _ _ _ h => h) (by rfl) ?hy6_34 (by assumption) ?r6_34
        case hy6_34 => (intro w hSw; (try dsimp only at hSw); go_simp; try with_reducible rfl)
        try simp only [Act.put, List.setIfInBounds_toArray, List.set_cons_zero, List.set_cons_succ]
        change wpAnyH _ _ _ _ _ 8 #[true, true, true, true, true, false, true, false, false, false, false, false, false, false] _ _
        refine heldTake (i := 7) (d := some 14) (v := (.int .i64 (k : Nat))) rfl rfl (by kernel_rfl) (by kernel_rfl) (by kernel_rfl) (fun _ _ _ h => h) (by rfl) ?hy7_35 (by assumption) ?r7_35
        case hy7_35 => (intro w hSw; clear hSw; go_simp; try with_reducible rfl)
        try simp only [Act.put, List.setIfInBounds_toArray, List.set_cons_zero, List.set_cons_succ]
        change wpAnyH _ _ _ _ _ 7 #[true, true, true, true, true, false, true, true, false, false, false, false, false, false] _ _
        refine wpAnyH_ready (rs := [5]) (by kernel_rfl) (by simp) ?_
        refine AllReadyH.cons rfl (fun K hK => ?_) AllReadyH.nil
        go_simp
        refine (order_any _).mono ?_
        rintro e z ⟨g, rfl, hB, hU⟩
        go_wp2
        refine hK.out _ _ (HC.then hHeld hU) (fun hHeld => ?_)
        clear hK K
        try simp only [Act.put, List.setIfInBounds_toArray, List.set_cons_zero, List.set_cons_succ]
        have co := hB.cell k HK.out
        have cl := hHeld.upd.keep hcx
        have k3 := hHeld.cells.1
        dsimp only at k3
        refine wpAnyH_imp (S' := fun w' => HC [] z [(⟨bx, 3, none⟩, .slice (some ⟨b, off, none⟩) 19 c4), (⟨g, k, none⟩, .int .i64 (j : Nat)), (⟨b, off + j, none⟩, .int .i64 (x : Nat))] w') (fun w' h => hHeld.more (by simp) h) _ _ _ _ ?_
        have HHz := Lib.hid hHeld
        clear hHeld
        have hHeld : HC [] z [(⟨bx, 3, none⟩, .slice (some ⟨b, off, none⟩) 19 c4), (⟨g, k, none⟩, .int .i64 (j : Nat)), (⟨b, off + j, none⟩, .int .i64 (x : Nat))] z := HC.of ⟨k3, co, cl, trivial⟩
        change wpAnyH _ _ _ _ _ 6 #[true, true, true, true, true, true, true, true, false, false, false, false, false, false] _ _
        refine heldTake (i := 8) (d := some 15) (v := ?v8_37) rfl rfl (by kernel_rfl) (by kernel_rfl) (by kernel_rfl) (fun _ _ _ h => h) (by rfl) ?hy8_37 (by assumption) ?r8_37
        case hy8_37 => (intro w hSw; (try dsimp only at hSw); go_simp; try with_reducible rfl)
        try simp only [Act.put, List.setIfInBounds_toArray, List.set_cons_zero, List.set_cons_succ]
        change wpAnyH _ _ _ _ _ 5 #[true, true, true, true, true, true, true, true, true, false, false, false, false, false] _ _
        refine heldTake (i := 9) (d := some 16) (v := ?v9_38) rfl rfl (by kernel_rfl) (by kernel_rfl) (by kernel_rfl) (fun _ _ _ h => h) (by rfl) ?hy9_38 (by assumption) ?r9_38
        case hy9_38 => (intro w hSw; have q0 := hSw.cells.2.1; dsimp only at q0; clear hSw; go_simp; try with_reducible rfl)
        try simp only [Act.put, List.setIfInBounds_toArray, List.set_cons_zero, List.set_cons_succ]
        change wpAnyH _ _ _ _ _ 4 #[true, true, true, true, true, true, true, true, true, true, false, false, false, false] _ _
        refine heldTake (i := 10) (d := some 17) (v := ?v10_39) rfl rfl (by kernel_rfl) (by kernel_rfl) (by kernel_rfl) (fun _ _ _ h => h) (by rfl) ?hy10_39 (by assumption) ?r10_39
        case hy10_39 => (intro w hSw; (try dsimp only at hSw); go_simp; try with_reducible rfl)
        try simp only [Act.put, List.setIfInBounds_toArray, List.set_cons_zero, List.set_cons_succ]
        change wpAnyH _ _ _ _ _ 3 #[true, true, true, true, true, true, true, true, true, true, true, false, false, false] _ _
        refine heldTake (i := 11) (d := some 18) (v := ?v11_40) rfl rfl (by kernel_rfl) (by kernel_rfl) (by kernel_rfl) (fun _ _ _ h => h) (by rfl) ?hy11_40 (by assumption) ?r11_40
        case hy11_40 => (intro w hSw; have q0 := hSw.cells.2.2.1; dsimp only at q0; clear hSw; go_simp; try with_reducible rfl)
        try simp only [Act.put, List.setIfInBounds_toArray, List.set_cons_zero, List.set_cons_succ]
        change wpAnyH _ _ _ _ _ 2 #[true, true, true, true, true, true, true, true, true, true, true, true, false, false] _ _
        refine heldTake (i := 12) (d := some 19) (v := (.bool false)) rfl rfl (by kernel_rfl) (by kernel_rfl) (by kernel_rfl) (fun _ _ _ h => h) (by rfl) ?hy12_41 (by assumption) ?r12_41
        case hy12_41 => (intro w hSw; clear hSw; go_simp; try with_reducible rfl)
        try simp only [Act.put, List.setIfInBounds_toArray, List.set_cons_zero, List.set_cons_succ]
        change wpAnyH _ _ _ _ _ 1 #[true, true, true, true, true, true, true, true, true, true, true, true, true, false] _ _
        refine heldTake (i := 13) (d := some 20) (v := ?v13_42) rfl rfl (by kernel_rfl) (by kernel_rfl) (by kernel_rfl) (fun _ _ _ h => h) (by rfl) ?hy13_42 (by assumption) ?r13_42
        case hy13_42 => (intro w hSw; (try dsimp only at hSw); go_simp; try with_reducible rfl)
        try simp only [Act.put, List.setIfInBounds_toArray, List.set_cons_zero, List.set_cons_succ]
        change wpAnyH _ _ _ _ _ 0 #[true, true, true, true, true, true, true, true, true, true, true, true, true, true] _ _
        refine wpAnyH_done (by kernel_rfl) ?_ 0
        have HUz := Lib.hid (HU.out.then (HHz.out.upd.then hHeld.upd))
        clear hHeld
        go_wp2
        go_ret
        exact ⟨_, rfl, ⟨by omega, by omega, HZ.out, .inr HX0.out⟩, HU1.out.then HUz.out⟩
    · have hcz : ¬ (4 : Int) < (m : Int) := by omega
      go_wp2
      refine wp_region_held_drew (S := fun w' => HC [] wr [] w') (by kernel_rfl) (HC.of (fp := []) (W := wr) (fs := []) trivial).drew (fun hHeld => ?_)
      change wpAnyH _ _ _ _ _ 14 #[false, false, false, false, false, false, false, false, false, false, false, false, false, false] _ _
      refine heldTake (i := 0) (d := some 7) (v := ?v0_1) rfl rfl (by kernel_rfl) (by kernel_rfl) (by kernel_rfl) (fun _ _ _ h => h) (by rfl) ?hy0_1 (by assumption) ?r0_1
      case hy0_1 => (intro w hSw; (try dsimp only at hSw); go_simp; try with_reducible rfl)
      try simp only [Act.put, List.setIfInBounds_toArray, List.set_cons_zero, List.set_cons_succ]
      change wpAnyH _ _ _ _ _ 13 #[true, false, false, false, false, false, false, false, false, false, false, false, false, false] _ _
      refine heldTake (i := 1) (d := some 8) (v := (.bool false)) rfl rfl (by kernel_rfl) (by kernel_rfl) (by kernel_rfl) (fun _ _ _ h => h) (by rfl) ?hy1_2 (by assumption) ?r1_2
      case hy1_2 => (intro w hSw; clear hSw; go_simp; try with_reducible rfl)
      try simp only [Act.put, List.setIfInBounds_toArray, List.set_cons_zero, List.set_cons_succ]
      change wpAnyH _ _ _ _ _ 12 #[true, true, false, false, false, false, false, false, false, false, false, false, false, false] _ _
      refine heldTake (i := 2) (d := some 9) (v := ?v2_3) rfl rfl (by kernel_rfl) (by kernel_rfl) (by kernel_rfl) (fun _ _ _ h => h) (by rfl) ?hy2_3 (by assumption) ?r2_3
      case hy2_3 => (intro w hSw; (try dsimp only at hSw); go_simp; try with_reducible rfl)
      try simp only [Act.put, List.setIfInBounds_toArray, List.set_cons_zero, List.set_cons_succ]
      change wpAnyH _ _ _ _ _ 11 #[true, true, true, false, false, false, false, false, false, false, false, false, false, false] _ _
      refine heldSkip (i := 3) (d := some 10) rfl rfl (by kernel_rfl) (by kernel_rfl) (by kernel_rfl) (fun _ _ _ h => h) (by rfl) (by assumption) ?r3_4
      try simp only [Act.put, List.setIfInBounds_toArray, List.set_cons_zero, List.set_cons_succ]
      change wpAnyH _ _ _ _ _ 10 #[true, true, true, true, false, false, false, false, false, false, false, false, false, false] _ _
      refine heldSkip (i := 4) (d := some 11) rfl rfl (by kernel_rfl) (by kernel_rfl) (by kernel_rfl) (fun _ _ _ h => h) (by rfl) (by assumption) ?r4_5
      try simp only [Act.put, List.setIfInBounds_toArray, List.set_cons_zero, List.set_cons_succ]
      change wpAnyH _ _ _ _ _ 9 #[true, true, true, true, true, false, false, false, false, false, false, false, false, false] _ _
      refine heldSkip (i := 5) (d := some 12) rfl rfl (by kernel_rfl) (by kernel_rfl) (by kernel_rfl) (fun _ _ _ h => h) (by rfl) (by assumption) ?r5_6
      try simp only [Act.put, List.setIfInBounds_toArray, List.set_cons_zero, List.set_cons_succ]
      change wpAnyH _ _ _ _ _ 8 #[true, true, true, true, true, true, false, false, false, false, false, false, false, false] _ _
      refine heldSkip (i := 6) (d := some 13) rfl rfl (by kernel_rfl) (by kernel_rfl) (by kernel_rfl) (fun _ _ _ h => h) (by rfl) (by assumption) ?r6_7
      try simp only [Act.put, List.setIfInBounds_toArray, List.set_cons_zero, List.set_cons_succ]
      change wpAnyH _ _ _ _ _ 7 #[true, true, true, true, true, true, true, false, false, false, false, false, false, false] _ _
      refine heldSkip (i := 7) (d := some 14) rfl rfl (by kernel_rfl) (by kernel_rfl) (by kernel_rfl) (fun _ _ _ h => h) (by rfl) (by assumption) ?r7_8
      try simp only [Act.put, List.setIfInBounds_toArray, List.set_cons_zero, List.set_cons_succ]
      change wpAnyH _ _ _ _ _ 6 #[true, true, true, true, true, true, true, true, false, false, false, false, false, false] _ _
      refine heldSkip (i := 8) (d := some 15) rfl rfl (by kernel_rfl) (by kernel_rfl) (by kernel_rfl) (fun _ _ _ h => h) (by rfl) (by assumption) ?r8_9
      try simp only [Act.put, List.setIfInBounds_toArray, List.set_cons_zero, List.set_cons_succ]
      change wpAnyH _ _ _ _ _ 5 #[true, true, true, true, true, true, true, true, true, false, false, false, false, false] _ _
      refine heldSkip (i := 9) (d := some 16) rfl rfl (by kernel_rfl) (by kernel_rfl) (by kernel_rfl) (fun _ _ _ h => h) (by rfl) (by assumption) ?r9_10
      try simp only [Act.put, List.setIfInBounds_toArray, List.set_cons_zero, List.set_cons_succ]
      change wpAnyH _ _ _ _ _ 4 #[true, true, true, true, true, true, true, true, true, true, false, false, false, false] _ _
      refine heldSkip (i := 10) (d := some 17) rfl rfl (by kernel_rfl) (by kernel_rfl) (by kernel_rfl) (fun _ _ _ h => h) (by rfl) (by assumption) ?r10_11
      try simp only [Act.put, List.setIfInBounds_toArray, List.set_cons_zero, List.set_cons_succ]
      change wpAnyH _ _ _ _ _ 3 #[true, true, true, true, true, true, true, true, true, true, true, false, false, false] _ _
      refine heldSkip (i := 11) (d := some 18) rfl rfl (by kernel_rfl) (by kernel_rfl) (by kernel_rfl) (fun _ _ _ h => h) (by rfl) (by assumption) ?r11_12
      try simp only [Act.put, List.setIfInBounds_toArray, List.set_cons_zero, List.set_cons_succ]
      change wpAnyH _ _ _ _ _ 2 #[true, true, true, true, true, true, true, true, true, true, true, true, false, false] _ _
      refine heldSkip (i := 12) (d := some 19) rfl rfl (by kernel_rfl) (by kernel_rfl) (by kernel_rfl) (fun _ _ _ h => h) (by rfl) (by assumption) ?r12_13
      try simp only [Act.put, List.setIfInBounds_toArray, List.set_cons_zero, List.set_cons_succ]
      change wpAnyH _ _ _ _ _ 1 #[true, true, true, true, true, true, true, true, true, true, true, true, true, false] _ _
      refine heldTake (i := 13) (d := some 20) (v := ?v13_14) rfl rfl (by kernel_rfl) (by kernel_rfl) (by kernel_rfl) (fun _ _ _ h => h) (by rfl) ?hy13_14 (by assumption) ?r13_14
      case hy13_14 => (intro w hSw; (try dsimp only at hSw); go_simp; try with_reducible rfl)
      try simp only [Act.put, List.setIfInBounds_toArray, List.set_cons_zero, List.set_cons_succ]
      change wpAnyH _ _ _ _ _ 0 #[true, true, true, true, true, true, true, true, true, true, true, true, true, true] _ _
      refine wpAnyH_done (by kernel_rfl) ?_ 0
      go_wp2
      go_ret
      exact ⟨_, rfl, ⟨by omega, by omega, HZ.out, .inl (by omega)⟩, (HU1.out.then HU.out).drew⟩
/-- How many bits steps have, by lengths of lengths. -/
def szT (lens : List Nat) (l : List StpD) : Nat := (l.map fun s => lens.getD s.sym 0 + s.bits).sum
theorem szT_snoc (lens : List Nat) (l : List StpD) (s : StpD) : szT lens (l ++ [s]) = szT lens l + (lens.getD s.sym 0 + s.bits) := by unfold szT; simp
theorem szT_le (lens : List Nat) (hl : ∀ j, lens.getD j 0 ≤ 15) : ∀ (l : List StpD), (∀ s ∈ l, s.bits ≤ 7) → szT lens l ≤ 22 * l.length
  | [], _ => by simp [szT]
  | s :: l, h => by
    have ih := szT_le lens hl l (fun x hx => h x (List.mem_cons_of_mem _ hx))
    have h1 := hl s.sym
    have h2 := h s List.mem_cons_self
    unfold szT at *
    rw [List.map_cons, List.sum_cons, List.length_cons]
    omega
def SizeP (lens : List Nat) (l : List StpD) (w : World) (e : Ending) (w' : World) : Prop := ∃ t : Nat, e = .returned (.int .i64 ((14 + 3 * t + szT lens l : Nat) : Int)) ∧ ToldO lens t ∧ Upd [] w w'
set_option maxRecDepth 100000 in
set_option maxHeartbeats 6400000 in
theorem size_any (lens : List Nat) (l : List StpD) (a1 a2 a3 a4 : Option Addr) (n1 n2 n3 c1 c2 c3 c4 : Nat) (w : World) (hI : IntsIn w a4 19 (ints lens)) (hS : StpIn w a3 n3 l) (hn : n3 ≤ 100000) (hl : ∀ j, lens.getD j 0 ≤ 15) (hs : ∀ s ∈ l, s.sym < 19 ∧ s.bits ≤ 7) :
    Calls Tryz.prog 33 #[.agg #[.slice a1 n1 c1, .slice a2 n2 c2, .slice a3 n3 c3, .slice a4 19 c4]] w fun e w' => SizeP lens l w e w' := by
  have hB := Blk.new w [.slice a1 n1 c1, .slice a2 n2 c2, .slice a3 n3 c3, .slice a4 19 c4] 61
  have HU1 := Lib.hid ((Upd.refl [] w).alloc (.cells #[.slice a1 n1 c1, .slice a2 n2 c2, .slice a3 n3 c3, .slice a4 19 c4] 61))
  have HI1 := Lib.hid (hI.pure HU1.out)
  have HS1 := Lib.hid (hS.pure HU1.out)
  have HLN := Lib.hid hI.len
  have HLS := Lib.hid hS.len
  have HSY := Lib.hid hs
  have HL15 := Lib.hid hl
  have HZB := Lib.hid (fun i => szT_le lens hl (l.take i) (fun s h => (hs s (List.mem_of_mem_take h)).2))
  have HB := Lib.hid hB
  have HBC := Lib.hid (hB.cell 0 rfl)
  clear hI hB hS hl hs
  go_enter Tryz.func33, Tryz.ntmps33
  go_upto_region 1 with fail
  change Code.wp _ _ _ _ (w.alloc (.cells #[.slice a1 n1 c1, .slice a2 n2 c2, .slice a3 n3 c3, .slice a4 19 c4] 61))
  generalize w.alloc (.cells #[.slice a1 n1 c1, .slice a2 n2 c2, .slice a3 n3 c3, .slice a4 19 c4] 61) = w1 at *
  generalize w.heap.size = bx at *
  have q0 := HB.out.cell 0 rfl
  have q1 := HB.out.cell 1 rfl
  have q2 := HB.out.cell 2 rfl
  have q3 := HB.out.cell 3 rfl
  have HC2 := Lib.hid q2
  have HC3 := Lib.hid q3
  have HTO := Lib.hid (told_any lens a1 a2 a3 a4 n1 n2 n3 c1 c2 c3 c4 w1 HI1.out)
  go_wp2_with fail
  refine HTO.out.mono ?_
  rintro e w2 ⟨t, rfl, ht, hU2⟩
  have ht4 := ht.lo
  have ht19 := ht.hi
  have HT := Lib.hid ht
  have HU2 := Lib.hid hU2
  have q2' := hU2.keep HC2.out
  have hw3 : IntKind.i64.wrap (3 * (t : Int)) = 3 * (t : Int) := IntWalk.i64_in _ (by omega)
  have hw14 : IntKind.i64.wrap (14 + 3 * (t : Int)) = 14 + 3 * (t : Int) := IntWalk.i64_in _ (by omega)
  clear q0 q1 q2 q3 ht hU2 HTO HBC
  go_wp2
  clear hw3 hw14 q2'
  go_loopg [3, 13] 200000 (fun gg s3 s13 wr => ∃ i : Nat, i ≤ n3 ∧ gg = 200000 - i ∧ s13 = .int .i64 (i : Nat) ∧ s3 = .int .i64 ((14 + 3 * t + szT lens (l.take i) : Nat) : Int) ∧ Hid (Upd [] w2 wr))
  case atStart => exact ⟨0, by omega, by omega, rfl, by first | rfl | (rw [List.take_zero, show szT lens [] = 0 from rfl]; first | rfl | go_num), Lib.hid (Upd.refl _ _)⟩
  case round =>
    obtain ⟨i, hin, rfl, rfl, rfl, HU⟩ := hrel
    have hzb : szT lens (l.take i) ≤ 22 * i := Nat.le_trans (HZB.out i) (Nat.mul_le_mul_left _ (List.length_take_le _ _))
    by_cases hc : i < n3
    · have hcz : (i : Int) < (n3 : Int) := by omega
      have hil : i < l.length := by rw [HLS.out]; exact hc
      have hw1 : IntKind.i64.wrap ((i : Int) + 1) = ((i + 1 : Nat) : Int) := by rw [IntWalk.i64_in _ (by omega)]; rfl
      obtain ⟨b, off, rfl, hc1, hc2, hc3⟩ := (HS1.out.pure (HU2.out.then HU.out)).cell i hil
      have HST : Hid (szT lens (l.take (i + 1)) = szT lens (l.take i) + (lens.getD l[i].sym 0 + l[i].bits)) := Lib.hid (by rw [List.take_succ_eq_append_getElem hil, szT_snoc])
      obtain ⟨hy19, hb7⟩ := HSY.out l[i] (List.getElem_mem hil)
      generalize l[i] = s at *
      obtain ⟨sy, sb, sm⟩ := s
      dsimp only at hc1 hc2 hc3 hy19 hb7 HST
      have hjl : sy < lens.length := by have := HLN.out; simp [ints] at this; omega
      obtain ⟨b4, off4, rfl, hcx⟩ := ((HI1.out.pure HU2.out).pure HU.out).natAt sy hjl
      have hx15 := HL15.out sy
      generalize lens.getD sy 0 = x at *
      have hT4 := Blk.new wr [.int .i64 (sy : Nat), .int .i64 (sb : Nat), .int .i64 (sm : Nat)] 101
      have hU4 := (Upd.refl [] wr).alloc (.cells #[.int .i64 (sy : Nat), .int .i64 (sb : Nat), .int .i64 (sm : Nat)] 101)
      have hcy := hU4.keep hcx
      have k3 := hU4.keep (HU.out.keep (HU2.out.keep HC3.out))
      have HU4 := Lib.hid (HU.out.then hU4)
      generalize szT lens (l.take i) = S at *
      clear hil hjl hU4
      obtain ⟨R, hR⟩ : ∃ R, 14 + 3 * t + S = R := ⟨_, rfl⟩
      obtain ⟨X, hX⟩ : ∃ X, x + sb = X := ⟨_, rfl⟩
      obtain ⟨Y, hY⟩ : ∃ Y, 14 + 3 * t + (S + X) = Y := ⟨_, rfl⟩
      have hwa : IntKind.i64.wrap ((x : Int) + (sb : Int)) = (X : Int) := by rw [IntWalk.i64_in _ (by omega)]; omega
      have hwb : IntKind.i64.wrap ((R : Int) + (X : Int)) = (Y : Int) := by rw [IntWalk.i64_in _ (by omega)]; omega
      rw [hR]
      have HY : Hid (14 + 3 * t + szT lens (l.take (i + 1)) = Y) := Lib.hid (by rw [HST.out, hX, hY])
      have hsyz : (sy : Int) < 19 := by omega
      clear hY hR hX hzb hx15 hb7
      go_upto_region 5 with fail
      change Code.wp _ _ _ _ (wr.alloc (.cells #[.int .i64 (sy : Nat), .int .i64 (sb : Nat), .int .i64 (sm : Nat)] 101))
      generalize wr.alloc (.cells #[.int .i64 (sy : Nat), .int .i64 (sb : Nat), .int .i64 (sm : Nat)] 101) = w4 at *
      generalize wr.heap.size = q at *
      have t0 := hT4.cell 0 rfl
      have t1 := hT4.cell 1 rfl
      clear hT4 hc1 hc2 hc3 hcx
      go_quiet (fail)
      go_wp2
      go_roundg (200000 - (i + 1))
      · exact ⟨i + 1, by omega, by omega, by first | rfl | go_num, by rw [HY.out], Lib.hid (HU4.out.drewN _)⟩
      · omega
    · have hcz : ¬ (i : Int) < (n3 : Int) := by omega
      obtain rfl : i = n3 := by omega
      have htk : l.take i = l := List.take_of_length_le (by rw [HLS.out]; exact Nat.le_refl _)
      rw [htk] at hzb ⊢
      go_wp2
      go_ret
      exact ⟨t, rfl, HT.out, HU1.out.then (HU2.out.then HU.out)⟩
end Go.Proofs.YtdehkaknbmbieaaGreat
