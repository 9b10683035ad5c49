/- Reference of lens: Cost and Best: their walks. -/
import Derived.Test.YtdehkaknbmbieaaHeld
import Derived.Test.YtdehkaknbmbieaaGQ
namespace Go.Proofs.Ytdehkaknbmbieaa
set_option linter.unusedVariables false
set_option linter.unusedSimpArgs false
set_option linter.unusedSectionVars false
open Go.RowKit
set_option linter.unusedVariables false
set_option linter.unusedSimpArgs false

def NumP (v : Int) (w : World) (e : Ending) (w' : World) : Prop := e = .returned (.int .i64 v) ∧ Upd [] w w'
set_option maxRecDepth 100000 in
set_option maxHeartbeats 6400000 in
theorem cost_any (l : List Nat) (many : List Int) (a1 a2 : Option Addr) (n c1 c2 : Nat) (w : World) (h1 : IntsIn w a1 n (ints l)) (h2 : IntsIn w a2 n many) (hn : n ≤ 300) (hb : ∀ i, i < n → l.getD i 0 ≤ 15) :
    Calls Try.prog 16 #[.slice a1 n c1, .slice a2 n c2] w fun e w' => NumP (sumN n (fun i => l.getD i 0 * nearN (many.getD i 0)) : Nat) w e w' := by
  have H1 := Lib.hid h1
  have H2 := Lib.hid h2
  have HL1 : Hid (l.length = n) := Lib.hid (by have := h1.len; simpa [ints] using this)
  have HL2 := Lib.hid h2.len
  have HB := Lib.hid hb
  have HSU := Lib.hid (sumN_succ · (fun i => l.getD i 0 * nearN (many.getD i 0)))
  have HS0 : Hid (sumN 0 (fun i => l.getD i 0 * nearN (many.getD i 0)) = 0) := Lib.hid rfl
  have HSB : Hid (∀ i, i ≤ n → sumN i (fun i => l.getD i 0 * nearN (many.getD i 0)) ≤ i * 16106127360) := Lib.hid (fun i hi => by
    have := sumN_le (n := i) (f := fun i => l.getD i 0 * nearN (many.getD i 0)) (g := fun _ => 16106127360) (fun j hj => by
      have := Nat.mul_le_mul (hb j (by omega)) (nearN_le (many.getD j 0))
      omega)
    rw [sumN_const] at this
    exact this)
  generalize hF : sumN = F at *
  clear h1 h2 hb
  go_enter Try.func16, Try.ntmps16
  go_wp2
  go_loopg [5, 9] 1000 (fun gg s5 s9 wr => ∃ i : Nat, i ≤ n ∧ gg = 1000 - i ∧ s9 = .int .i64 (i : Nat) ∧ s5 = .int .i64 ((F i (fun i => l.getD i 0 * nearN (many.getD i 0)) : Nat) : Int) ∧ Hid (Upd [] w wr))
  case atStart => exact ⟨0, by omega, rfl, rfl, by rw [HS0.out]; rfl, Lib.hid (Upd.refl _ _)⟩
  case round =>
    obtain ⟨i, hin, rfl, rfl, rfl, HU⟩ := hrel
    by_cases hc : i < n
    · have hcz : (i : Int) < (n : Int) := by omega
      have hi1 : i < l.length := by rw [HL1.out]; exact hc
      have hi2 : i < many.length := by rw [HL2.out]; exact hc
      obtain ⟨b, off, rfl, hc1, hq1, hq2⟩ := (H1.out.pure HU.out).cell i (by simpa [ints] using hi1)
      obtain ⟨b', off', rfl, hc2, _, _⟩ := (H2.out.pure HU.out).cell i hi2
      have hx15 := HB.out i hc
      have hss := HSU.out i
      have hsb := HSB.out i hin
      have e1 : l.getD i 0 = l[i] := by simp [List.getD_eq_getElem?_getD, hi1]
      have e2 : many.getD i 0 = many[i] := by simp [List.getD_eq_getElem?_getD, hi2]
      rw [e1] at hx15
      simp only [e1, e2] at hss
      have e3 : (ints l)[i]'(by simpa [ints] using hi1) = ((l[i] : Nat) : Int) := by simp [ints]
      rw [e3] at hc1
      have HC1 := Lib.hid hc1
      have HC2 := Lib.hid hc2
      have HSS := Lib.hid hss
      clear e1 e2 e3 hc1 hc2 hss hq1 hq2
      generalize F i (fun i => l.getD i 0 * nearN (many.getD i 0)) = acc at *
      generalize l[i] = x at *
      generalize many[i] = m at *
      have HNR := Lib.hid (fun w => rnear_any m w)
      have hNle := nearN_le m
      generalize nearN m = N at *
      have hw1 : IntKind.i64.wrap ((i : Int) + 1) = ((i + 1 : Nat) : Int) := by rw [IntWalk.i64_in _ (by omega)]; rfl
      obtain ⟨y, hy⟩ : ∃ y, x * N = y := ⟨_, rfl⟩
      have hyb : y ≤ 16106127360 := by rw [← hy]; have := Nat.mul_le_mul hx15 hNle; omega
      have hacc : acc ≤ 4831838208000 := by omega
      have hwy : IntKind.i64.wrap ((x : Int) * (N : Int)) = (y : Int) := by
        have : ((x : Int) * (N : Int)) = (y : Int) := by rw [← hy]; simp
        rw [this]
        exact IntWalk.i64_in _ (by omega)
      have hwa : IntKind.i64.wrap ((acc : Int) + (y : Int)) = ((acc + y : Nat) : Int) := by rw [IntWalk.i64_in _ (by omega)]; simp
      rw [hy] at HSS
      clear hi1 hi2 hsb hy
      go_wp2
      refine wp_region_held_drew (S := fun w' => Upd [] wr w') (by kernel_rfl) (Upd.refl _ _).drew (fun hHeld => ?_)
      change wpAnyH _ _ _ _ _ 13 #[false, false, false, false, false, false, false, false, false, false, false, false, false] _ _
      refine heldTake (i := 0) (d := some 12) (v := ?v0_1) rfl rfl (by kernel_rfl) (by kernel_rfl) (by kernel_rfl) (fun _ _ _ h => h) (by rfl) ?hy0_1 (by assumption) ?r0_1
      case hy0_1 => (intro w hSw; (try dsimp only at hSw); go_simp; try with_reducible rfl)
      try simp only [Act.put, List.setIfInBounds_toArray, List.set_cons_zero, List.set_cons_succ]
      change wpAnyH _ _ _ _ _ 12 #[true, false, false, false, false, false, false, false, false, false, false, false, false] _ _
      refine heldTake (i := 1) (d := some 13) (v := ?v1_2) rfl rfl (by kernel_rfl) (by kernel_rfl) (by kernel_rfl) (fun _ _ _ h => h) (by rfl) ?hy1_2 (by assumption) ?r1_2
      case hy1_2 => (intro w hSw; (try dsimp only at hSw); go_simp; try with_reducible rfl)
      try simp only [Act.put, List.setIfInBounds_toArray, List.set_cons_zero, List.set_cons_succ]
      change wpAnyH _ _ _ _ _ 11 #[true, true, false, false, false, false, false, false, false, false, false, false, false] _ _
      refine heldTake (i := 2) (d := some 14) (v := ?v2_3) rfl rfl (by kernel_rfl) (by kernel_rfl) (by kernel_rfl) (fun _ _ _ h => h) (by rfl) ?hy2_3 (by assumption) ?r2_3
      case hy2_3 => (intro w hSw; (try dsimp only at hSw); go_simp; try with_reducible rfl)
      try simp only [Act.put, List.setIfInBounds_toArray, List.set_cons_zero, List.set_cons_succ]
      change wpAnyH _ _ _ _ _ 10 #[true, true, true, false, false, false, false, false, false, false, false, false, false] _ _
      refine heldTake (i := 3) (d := some 15) (v := ?v3_4) rfl rfl (by kernel_rfl) (by kernel_rfl) (by kernel_rfl) (fun _ _ _ h => h) (by rfl) ?hy3_4 (by assumption) ?r3_4
      case hy3_4 => (intro w hSw; (try dsimp only at hSw); go_simp; try with_reducible rfl)
      try simp only [Act.put, List.setIfInBounds_toArray, List.set_cons_zero, List.set_cons_succ]
      change wpAnyH _ _ _ _ _ 9 #[true, true, true, true, false, false, false, false, false, false, false, false, false] _ _
      refine heldTake (i := 4) (d := some 16) (v := ?v4_5) rfl rfl (by kernel_rfl) (by kernel_rfl) (by kernel_rfl) (fun _ _ _ h => h) (by rfl) ?hy4_5 (by assumption) ?r4_5
      case hy4_5 => (intro w0 hSw; have q0 := (hSw.at (cellLt HC1.out) (by simp) _).trans HC1.out; go_simp; try with_reducible rfl)
      try simp only [Act.put, List.setIfInBounds_toArray, List.set_cons_zero, List.set_cons_succ]
      change wpAnyH _ _ _ _ _ 8 #[true, true, true, true, true, false, false, false, false, false, false, false, false] _ _
      refine heldTake (i := 5) (d := some 17) (v := ?v5_6) rfl rfl (by kernel_rfl) (by kernel_rfl) (by kernel_rfl) (fun _ _ _ h => h) (by rfl) ?hy5_6 (by assumption) ?r5_6
      case hy5_6 => (intro w hSw; (try dsimp only at hSw); go_simp; try with_reducible rfl)
      try simp only [Act.put, List.setIfInBounds_toArray, List.set_cons_zero, List.set_cons_succ]
      change wpAnyH _ _ _ _ _ 7 #[true, true, true, true, true, true, false, false, false, false, false, false, false] _ _
      refine heldTake (i := 6) (d := some 18) (v := ?v6_7) rfl rfl (by kernel_rfl) (by kernel_rfl) (by kernel_rfl) (fun _ _ _ h => h) (by rfl) ?hy6_7 (by assumption) ?r6_7
      case hy6_7 => (intro w hSw; (try dsimp only at hSw); go_simp; try with_reducible rfl)
      try simp only [Act.put, List.setIfInBounds_toArray, List.set_cons_zero, List.set_cons_succ]
      change wpAnyH _ _ _ _ _ 6 #[true, true, true, true, true, true, true, false, false, false, false, false, false] _ _
      refine heldTake (i := 7) (d := some 19) (v := ?v7_8) rfl rfl (by kernel_rfl) (by kernel_rfl) (by kernel_rfl) (fun _ _ _ h => h) (by rfl) ?hy7_8 (by assumption) ?r7_8
      case hy7_8 => (intro w hSw; (try dsimp only at hSw); go_simp; try with_reducible rfl)
      try simp only [Act.put, List.setIfInBounds_toArray, List.set_cons_zero, List.set_cons_succ]
      change wpAnyH _ _ _ _ _ 5 #[true, true, true, true, true, true, true, true, false, false, false, false, false] _ _
      refine heldTake (i := 8) (d := some 20) (v := ?v8_9) rfl rfl (by kernel_rfl) (by kernel_rfl) (by kernel_rfl) (fun _ _ _ h => h) (by rfl) ?hy8_9 (by assumption) ?r8_9
      case hy8_9 => (intro w0 hSw; have q0 := (hSw.at (cellLt HC2.out) (by simp) _).trans HC2.out; go_simp; try with_reducible rfl)
      try simp only [Act.put, List.setIfInBounds_toArray, List.set_cons_zero, List.set_cons_succ]
      change wpAnyH _ _ _ _ _ 4 #[true, true, true, true, true, true, true, true, true, false, false, false, false] _ _
      refine wpAnyH_ready (rs := [9]) (by kernel_rfl) (by simp) ?_
      refine AllReadyH.cons rfl (fun K hK => ?_) AllReadyH.nil
      go_simp
      refine (HNR.out _).mono ?_
      rintro e z1 ⟨rfl, rfl⟩
      go_wp2
      refine hK.out _ _ hHeld (fun hHeld => ?_)
      clear hK K
      try simp only [Act.put, List.setIfInBounds_toArray, List.set_cons_zero, List.set_cons_succ]
      change wpAnyH _ _ _ _ _ 3 #[true, true, true, true, true, true, true, true, true, true, false, false, false] _ _
      refine heldTake (i := 10) (d := some 22) (v := (.int .i64 (y : Nat))) rfl rfl (by kernel_rfl) (by kernel_rfl) (by kernel_rfl) (fun _ _ _ h => h) (by rfl) ?hy10_11 (by assumption) ?r10_11
      case hy10_11 => (intro w0 hSw; go_simp; all_goals rw [hwy])
      try simp only [Act.put, List.setIfInBounds_toArray, List.set_cons_zero, List.set_cons_succ]
      change wpAnyH _ _ _ _ _ 2 #[true, true, true, true, true, true, true, true, true, true, true, false, false] _ _
      refine heldTake (i := 11) (d := some 23) (v := (.int .i64 ((acc + y : Nat) : Int))) rfl rfl (by kernel_rfl) (by kernel_rfl) (by kernel_rfl) (fun _ _ _ h => h) (by rfl) ?hy11_12 (by assumption) ?r11_12
      case hy11_12 => (intro w0 hSw; go_simp; all_goals rw [hwa])
      try simp only [Act.put, List.setIfInBounds_toArray, List.set_cons_zero, List.set_cons_succ]
      change wpAnyH _ _ _ _ _ 1 #[true, true, true, true, true, true, true, true, true, true, true, true, false] _ _
      refine heldTake (i := 12) (d := some 5) (v := ?v12_13) rfl rfl (by kernel_rfl) (by kernel_rfl) (by kernel_rfl) (fun _ _ _ h => h) (by rfl) ?hy12_13 (by assumption) ?r12_13
      case hy12_13 => (intro w hSw; (try dsimp only at hSw); go_simp; try with_reducible rfl)
      try simp only [Act.put, List.setIfInBounds_toArray, List.set_cons_zero, List.set_cons_succ]
      change wpAnyH _ _ _ _ _ 0 #[true, true, true, true, true, true, true, true, true, true, true, true, true] _ _
      refine wpAnyH_done (by kernel_rfl) ?_ 0
      go_wp2
      go_roundg (1000 - (i + 1))
      · exact ⟨i + 1, by omega, rfl, by first | rfl | go_num, by rw [HSS.out]; simp, Lib.hid (HU.out.then hHeld)⟩
      · omega
    · have hcz : ¬ (i : Int) < (n : Int) := by omega
      obtain rfl : i = n := by omega
      go_wp2
      go_ret
      exact ⟨rfl, HU.out⟩
end Go.Proofs.Ytdehkaknbmbieaa
