/- Law 05: LensFit: its walk. -/
import Derived.Test.YtdehkaknbmbieaaFitP
import Derived.Test.YtdehkaknbmbieaaRKind
namespace Go.Proofs.Ytdehkaknbmbieaa
set_option linter.unusedVariables false
set_option linter.unusedSimpArgs false
set_option linter.unusedSectionVars false
open Go.RowKit
set_option linter.unusedVariables false
set_option linter.unusedSimpArgs false

theorem nats_ints (l : List Nat) : nats (ints l) = l := by
  unfold nats ints
  rw [List.map_map]
  have : (Int.toNat ∘ fun x : Nat => (x : Int)) = id := by funext x; simp
  rw [this, List.map_id]
theorem okLens_ints {l : List Nat} {L : Nat} (h1 : l.length ≤ 300) (h2 : ∀ i, i < l.length → l.getD i 0 ≤ L) (h15 : L ≤ 15) : okLens (ints l) = true := by
  refine okLens_mk (by simpa [ints] using h1) (fun k hk => ?_)
  obtain ⟨x, hx, rfl⟩ := List.mem_map.1 hk
  obtain ⟨i, hi, rfl⟩ := List.getElem_of_mem hx
  have := h2 i hi
  rw [List.getD_eq_getElem?_getD, List.getElem?_eq_getElem hi] at this
  simp at this
  omega
theorem kind_fit {many : List Int} {u : List Nat} {L n : Nat} {l : List Nat} (h : Fits many u L n l) (hn : n ≤ 300) (h15 : L ≤ 15) : (u.length = 0 → kindOf (ints l) = 0) ∧ (2 ≤ u.length → kindOf (ints l) = 1) := by
  have ho : okLens (ints l) = true := okLens_ints (L := L) (by rw [h.len]; exact hn) (fun i hi => h.le i (by rw [← h.len]; exact hi)) h15
  unfold kindOf
  rw [if_pos ho, nats_ints]
  constructor
  · intro h0
    unfold kindN
    rw [if_pos (h.none (List.eq_nil_of_length_eq_zero h0))]
  · intro h2
    unfold kindN
    rw [h.two h2]
    simp
theorem used_bd {many : List Int} {n : Nat} {u : List Nat} (hu : IsUsed many n u) (hn : n ≤ 1000000) : ∀ x ∈ u, x ≤ 9223372036854775807 := fun x hx => by have := ((hu.mem x).1 hx).1; omega
set_option maxRecDepth 100000 in
set_option maxHeartbeats 6400000 in
theorem law_lensFit (many : List Int) (a : Option Addr) (n cap : Nat) (L : Int) (w : World) (hI : IntsIn w a n many) (hn : n ≤ 9223372036854775807) :
    Calls Try.prog 3 #[.slice a n cap, .int .i64 L] w fun e w' => LivesP w e w' := by
  by_cases hbig : 320 < n
  · have hbz : (320 : Int) < (n : Int) := by omega
    have HUc := Lib.hid (Upd.refl [] w)
    clear hI
    go_enter Try.func3, Try.ntmps3
    go_wp2_with fail
    refine (lives_any _).mono ?_
    rintro e w9 ⟨rfl, hU9⟩
    have HU9 := Lib.hid (HUc.out.then hU9)
    clear hU9
    go_wp2
    go_ret
    exact ⟨rfl, HU9.out⟩
  · have hbz : ¬ (320 : Int) < (n : Int) := by omega
    have HOF := Lib.hid (of_any many a n cap L w hI (by omega))
    have HRU := Lib.hid (fun w1 (h : Upd [] w w1) => rused_any many a n cap w1 (hI.pure h) (by omega))
    have HUD := Lib.hid (fun w1 (h : Upd [] w w1) => used_any many a n cap w1 (hI.pure h) (by omega))
    have HI := Lib.hid hI
    have HLN := Lib.hid hI.len
    clear hI
    go_enter Try.func3, Try.ntmps3
    go_wp2_with fail
    refine HOF.out.mono ?_
    rintro e w1 ⟨v1, u, rfl, hu, hof, hU1⟩
    have HUs := Lib.hid hu
    have HOO := Lib.hid hof
    have HU1 := Lib.hid hU1
    clear hu hof hU1 HOF
    go_wp2_with fail
    refine (HRU.out _ HU1.out).mono ?_
    rintro e w2 ⟨v2, u2, rfl, hu2, hO2, hU2⟩
    obtain rfl := hu2.uniq HUs.out
    have hbd := used_bd HUs.out (by rw [HLN.out]; omega)
    obtain ⟨a2, c2, rfl, hI2⟩ := hO2.ints hbd
    have hRW := hO2.1
    rw [length_i64s] at hRW
    obtain ⟨k, hk⟩ : ∃ k, u2.length = k := ⟨_, rfl⟩
    rw [hk] at hI2 hRW ⊢
    have HK := Lib.hid hk
    have HI2 := Lib.hid hI2
    have HR2 := Lib.hid hRW
    have HB2 := Lib.hid hbd
    have HU2 := Lib.hid (HU1.out.then hU2)
    have HU21 := Lib.hid hU2
    clear hu2 hO2 hU2 hbd hI2 hRW hk HRU
    go_wp2_with fail
    refine (HUD.out _ HU2.out).mono ?_
    rintro e w3 ⟨v3, u3, rfl, hu3, hO3, hU3⟩
    obtain rfl := hu3.uniq HUs.out
    obtain ⟨a3, c3, rfl, hI3⟩ := hO3.ints HB2.out
    rw [HK.out] at hI3 ⊢
    have hkn : k ≤ n := by have := HUs.out.le; rw [HK.out, HLN.out] at this; exact this
    have HSM := Lib.hid (same_any _ _ a3 a2 k k c3 c2 w3 hI3 (HI2.out.pure hU3) (by omega) (by omega))
    have HU3 := Lib.hid (HU2.out.then hU3)
    have HU32 := Lib.hid hU3
    clear hu3 hO3 hU3 hI3 HUD
    go_wp2_with fail
    refine HSM.out.mono ?_
    rintro e w4 ⟨rfl, hU4⟩
    rw [decide_eq_true rfl]
    have HUc := Lib.hid (HU3.out.then hU4)
    have HU42 := Lib.hid (HU32.out.then hU4)
    clear hU4 HSM HU3 HU32
    by_cases hb1 : L < 1
    · have hv : v1 = .slice none 0 0 := by rcases HOO.out with ⟨_, h⟩ | ⟨h, _⟩; exact h; exact absurd (.inl hb1) h
      subst hv
      clear HOO
      go_wp2_with fail
      refine (lives_any _).mono ?_
      rintro e w9 ⟨rfl, hU9⟩
      have HU9 := Lib.hid (HUc.out.then hU9)
      clear hU9
      go_wp2
      go_ret
      exact ⟨rfl, HU9.out⟩
    by_cases hb2 : 15 < L
    · have hv : v1 = .slice none 0 0 := by rcases HOO.out with ⟨_, h⟩ | ⟨h, _⟩; exact h; exact absurd (.inr (.inl hb2)) h
      subst hv
      clear HOO
      go_wp2_with fail
      refine (lives_any _).mono ?_
      rintro e w9 ⟨rfl, hU9⟩
      have HU9 := Lib.hid (HUc.out.then hU9)
      clear hU9
      go_wp2
      go_ret
      exact ⟨rfl, HU9.out⟩
    by_cases hb3 : 300 < n
    · have hv : v1 = .slice none 0 0 := by rcases HOO.out with ⟨_, h⟩ | ⟨h, _⟩; exact h; exact absurd (.inr (.inr (.inl hb3))) h
      have hb3z : (300 : Int) < (n : Int) := by omega
      subst hv
      clear HOO
      go_wp2_with fail
      refine (lives_any _).mono ?_
      rintro e w9 ⟨rfl, hU9⟩
      have HU9 := Lib.hid (HUc.out.then hU9)
      clear hU9
      go_wp2
      go_ret
      exact ⟨rfl, HU9.out⟩
    have hb3z : ¬ (300 : Int) < (n : Int) := by omega
    obtain ⟨l, rfl⟩ : ∃ l : Nat, L = (l : Int) := ⟨L.toNat, by omega⟩
    have hl1 : 1 ≤ l := by omega
    have hl2 : l ≤ 15 := by omega
    have hmin : min (l : Int) 15 = (l : Int) := by omega
    have hmax : max 0 (l : Int) = (l : Int) := by omega
    obtain ⟨P, hP⟩ : ∃ P : Nat, 2 ^ l = P := ⟨_, rfl⟩
    have hPb : P ≤ 32768 := by
      have := Nat.pow_le_pow_right (n := 2) (by omega) hl2
      omega
    have hpw : wrap64 ((2 : Int) ^ l) = (P : Int) := by
      have : ((2 : Int) ^ l) = (P : Int) := by rw [← hP]; simp
      rw [this]
      unfold wrap64
      omega
    have HPP := Lib.hid hP
    clear hP
    by_cases hb4 : P < k
    · have hv : v1 = .slice none 0 0 := by rcases HOO.out with ⟨_, h⟩ | ⟨h, _⟩; exact h; exact absurd (.inr (.inr (.inr (by rw [show (l : Int).toNat = l by omega, HPP.out, HK.out]; exact hb4)))) h
      have hb4z : (P : Int) < (k : Int) := by omega
      subst hv
      clear HOO
      go_wp2_with fail
      refine (lives_any _).mono ?_
      rintro e w9 ⟨rfl, hU9⟩
      have HU9 := Lib.hid (HUc.out.then hU9)
      clear hU9
      go_wp2
      go_ret
      exact ⟨rfl, HU9.out⟩
    have hb4z : ¬ (P : Int) < (k : Int) := by omega
    have hof : ∃ ob, v1 = .slice (some ⟨ob, 0, none⟩) n n ∧ Blk w1 ob (i64s (ofL many u3 l n)) 3 := by
      rcases HOO.out with ⟨h, _⟩ | ⟨_, ob, h1, h2, h3⟩
      · exfalso
        unfold OfBad at h
        rw [show (l : Int).toNat = l by omega, HPP.out, HK.out] at h
        omega
      · rw [show (l : Int).toNat = l by omega] at h3
        exact ⟨ob, h1, h3⟩
    obtain ⟨ob, rfl, hB1⟩ := hof
    have HF := Lib.hid (of_fits HLN.out (by have := HUs.out; rwa [HLN.out] at this) l hl1 hl2 (by rw [HK.out, HPP.out]; omega))
    have hB4 := (hB1.upd HU21.out (by simp)).upd HU42.out (by simp)
    generalize ofL many u3 l n = LN at *
    have HB4 := Lib.hid hB4
    have HR4 := Lib.hid (HR2.out.upd HU42.out (by simp))
    clear hB1 hB4 HOO HU21 HR2 HI2 HU42 HU2 HU1
    go_wp2
    go_loopg [60] 1000000 (fun gg s60 wr => ∃ i : Nat, i ≤ n ∧ gg = 1000000 - i ∧ s60 = .int .i64 (i : Nat) ∧ Hid (Upd [] w4 wr))
    case atStart => exact ⟨0, by omega, rfl, rfl, Lib.hid (Upd.refl _ _)⟩
    case round =>
      obtain ⟨i, hin, rfl, rfl, HU⟩ := hrel
      by_cases hc : i < n
      · have hcz : (i : Int) < (n : Int) := by omega
        have hil : i < many.length := by rw [HLN.out]; exact hc
        have hiL : i < LN.length := by rw [HF.out.len]; exact hc
        obtain ⟨b, off, rfl, hc1, _, _⟩ := (HI.out.pure (HUc.out.then HU.out)).cell i hil
        have hc2 := (HB4.out.upd HU.out (by simp)).cell i (i64s_get LN i LN[i] (List.getElem?_eq_getElem hiL))
        have hiff := HF.out.iff i hc
        have hle := HF.out.le i hc
        have e1 : many.getD i 0 = many[i] := by simp [List.getD_eq_getElem?_getD, hil]
        have e2 : LN.getD i 0 = LN[i] := by simp [List.getD_eq_getElem?_getD, hiL]
        rw [e1, e2] at hiff
        rw [e2] at hle
        generalize many[i] = m at *
        generalize LN[i] = x at *
        have hxl : ¬ (l : Int) < (x : Int) := by omega
        have hw1 : IntKind.i64.wrap ((i : Int) + 1) = ((i + 1 : Nat) : Int) := by rw [IntWalk.i64_in _ (by omega)]; rfl
        clear e1 e2 hil hiL
        by_cases hm : 0 < m
        · have hx : (0 : Int) < (x : Int) := by have := hiff.2 hm; omega
          have HC1 := Lib.hid hc1
          have HC2 := Lib.hid hc2
          clear hiff hle hc1 hc2
          go_wp2
          refine wp_region_held_drew (S := fun w' => Upd [] wr w') (by kernel_rfl) (Upd.refl _ _).drew (fun hHeld => ?_)
          change wpAnyH _ _ _ _ _ 19 #[false, false, false, false, false, false, false, false, false, false, false, false, false, false, false, false, false, false, false] _ _
          refine heldTake (i := 0) (d := some 63) (v := ?v0_1) rfl rfl (by kernel_rfl) (by kernel_rfl) (by kernel_rfl) (fun _ _ _ h => h) (by rfl) ?hy0_1 (by assumption) ?r0_1
          case hy0_1 => (intro w hSw; (try dsimp only at hSw); go_simp; try with_reducible rfl)
          try simp only [Act.put, List.setIfInBounds_toArray, List.set_cons_zero, List.set_cons_succ]
          change wpAnyH _ _ _ _ _ 18 #[true, false, false, false, false, false, false, false, false, false, false, false, false, false, false, false, false, false, false] _ _
          refine heldTake (i := 1) (d := some 64) (v := ?v1_2) rfl rfl (by kernel_rfl) (by kernel_rfl) (by kernel_rfl) (fun _ _ _ h => h) (by rfl) ?hy1_2 (by assumption) ?r1_2
          case hy1_2 => (intro w hSw; (try dsimp only at hSw); go_simp; try with_reducible rfl)
          try simp only [Act.put, List.setIfInBounds_toArray, List.set_cons_zero, List.set_cons_succ]
          change wpAnyH _ _ _ _ _ 17 #[true, true, false, false, false, false, false, false, false, false, false, false, false, false, false, false, false, false, false] _ _
          refine heldTake (i := 2) (d := some 65) (v := ?v2_3) rfl rfl (by kernel_rfl) (by kernel_rfl) (by kernel_rfl) (fun _ _ _ h => h) (by rfl) ?hy2_3 (by assumption) ?r2_3
          case hy2_3 => (intro w hSw; (try dsimp only at hSw); go_simp; try with_reducible rfl)
          try simp only [Act.put, List.setIfInBounds_toArray, List.set_cons_zero, List.set_cons_succ]
          change wpAnyH _ _ _ _ _ 16 #[true, true, true, false, false, false, false, false, false, false, false, false, false, false, false, false, false, false, false] _ _
          refine heldTake (i := 3) (d := some 66) (v := ?v3_4) rfl rfl (by kernel_rfl) (by kernel_rfl) (by kernel_rfl) (fun _ _ _ h => h) (by rfl) ?hy3_4 (by assumption) ?r3_4
          case hy3_4 => (intro w0 hSw; have q0 := (hSw.at (cellLt HC2.out) (by simp) _).trans HC2.out; go_simp; try with_reducible rfl)
          try simp only [Act.put, List.setIfInBounds_toArray, List.set_cons_zero, List.set_cons_succ]
          change wpAnyH _ _ _ _ _ 15 #[true, true, true, true, false, false, false, false, false, false, false, false, false, false, false, false, false, false, false] _ _
          refine heldTake (i := 4) (d := some 67) (v := (.bool true)) rfl rfl (by kernel_rfl) (by kernel_rfl) (by kernel_rfl) (fun _ _ _ h => h) (by rfl) ?hy4_5 (by assumption) ?r4_5
          case hy4_5 => (intro w0 hSw; go_simp; (try simp [hx]); all_goals omega)
          try simp only [Act.put, List.setIfInBounds_toArray, List.set_cons_zero, List.set_cons_succ]
          change wpAnyH _ _ _ _ _ 14 #[true, true, true, true, true, false, false, false, false, false, false, false, false, false, false, false, false, false, false] _ _
          refine heldTake (i := 5) (d := some 68) (v := ?v5_6) rfl rfl (by kernel_rfl) (by kernel_rfl) (by kernel_rfl) (fun _ _ _ h => h) (by rfl) ?hy5_6 (by assumption) ?r5_6
          case hy5_6 => (intro w hSw; (try dsimp only at hSw); go_simp; try with_reducible rfl)
          try simp only [Act.put, List.setIfInBounds_toArray, List.set_cons_zero, List.set_cons_succ]
          change wpAnyH _ _ _ _ _ 13 #[true, true, true, true, true, true, false, false, false, false, false, false, false, false, false, false, false, false, false] _ _
          refine heldTake (i := 6) (d := some 69) (v := ?v6_7) rfl rfl (by kernel_rfl) (by kernel_rfl) (by kernel_rfl) (fun _ _ _ h => h) (by rfl) ?hy6_7 (by assumption) ?r6_7
          case hy6_7 => (intro w hSw; (try dsimp only at hSw); go_simp; try with_reducible rfl)
          try simp only [Act.put, List.setIfInBounds_toArray, List.set_cons_zero, List.set_cons_succ]
          change wpAnyH _ _ _ _ _ 12 #[true, true, true, true, true, true, true, false, false, false, false, false, false, false, false, false, false, false, false] _ _
          refine heldTake (i := 7) (d := some 70) (v := ?v7_8) rfl rfl (by kernel_rfl) (by kernel_rfl) (by kernel_rfl) (fun _ _ _ h => h) (by rfl) ?hy7_8 (by assumption) ?r7_8
          case hy7_8 => (intro w hSw; (try dsimp only at hSw); go_simp; try with_reducible rfl)
          try simp only [Act.put, List.setIfInBounds_toArray, List.set_cons_zero, List.set_cons_succ]
          change wpAnyH _ _ _ _ _ 11 #[true, true, true, true, true, true, true, true, false, false, false, false, false, false, false, false, false, false, false] _ _
          refine heldTake (i := 8) (d := some 71) (v := ?v8_9) rfl rfl (by kernel_rfl) (by kernel_rfl) (by kernel_rfl) (fun _ _ _ h => h) (by rfl) ?hy8_9 (by assumption) ?r8_9
          case hy8_9 => (intro w0 hSw; have q0 := (hSw.at (cellLt HC1.out) (by simp) _).trans HC1.out; go_simp; try with_reducible rfl)
          try simp only [Act.put, List.setIfInBounds_toArray, List.set_cons_zero, List.set_cons_succ]
          change wpAnyH _ _ _ _ _ 10 #[true, true, true, true, true, true, true, true, true, false, false, false, false, false, false, false, false, false, false] _ _
          refine heldTake (i := 9) (d := some 72) (v := (.bool true)) rfl rfl (by kernel_rfl) (by kernel_rfl) (by kernel_rfl) (fun _ _ _ h => h) (by rfl) ?hy9_10 (by assumption) ?r9_10
          case hy9_10 => (intro w0 hSw; go_simp; (try simp [hm]); all_goals omega)
          try simp only [Act.put, List.setIfInBounds_toArray, List.set_cons_zero, List.set_cons_succ]
          change wpAnyH _ _ _ _ _ 9 #[true, true, true, true, true, true, true, true, true, true, false, false, false, false, false, false, false, false, false] _ _
          refine heldTake (i := 10) (d := some 73) (v := (.bool false)) rfl rfl (by kernel_rfl) (by kernel_rfl) (by kernel_rfl) (fun _ _ _ h => h) (by rfl) ?hy10_11 (by assumption) ?r10_11
          case hy10_11 => (intro w0 hSw; go_simp; (try simp [hx]); all_goals omega)
          try simp only [Act.put, List.setIfInBounds_toArray, List.set_cons_zero, List.set_cons_succ]
          change wpAnyH _ _ _ _ _ 8 #[true, true, true, true, true, true, true, true, true, true, true, false, false, false, false, false, false, false, false] _ _
          refine heldTake (i := 11) (d := some 74) (v := ?v11_12) rfl rfl (by kernel_rfl) (by kernel_rfl) (by kernel_rfl) (fun _ _ _ h => h) (by rfl) ?hy11_12 (by assumption) ?r11_12
          case hy11_12 => (intro w hSw; (try dsimp only at hSw); go_simp; try with_reducible rfl)
          try simp only [Act.put, List.setIfInBounds_toArray, List.set_cons_zero, List.set_cons_succ]
          change wpAnyH _ _ _ _ _ 7 #[true, true, true, true, true, true, true, true, true, true, true, true, false, false, false, false, false, false, false] _ _
          refine heldTake (i := 12) (d := some 75) (v := ?v12_13) rfl rfl (by kernel_rfl) (by kernel_rfl) (by kernel_rfl) (fun _ _ _ h => h) (by rfl) ?hy12_13 (by assumption) ?r12_13
          case hy12_13 => (intro w hSw; (try dsimp only at hSw); go_simp; try with_reducible rfl)
          try simp only [Act.put, List.setIfInBounds_toArray, List.set_cons_zero, List.set_cons_succ]
          change wpAnyH _ _ _ _ _ 6 #[true, true, true, true, true, true, true, true, true, true, true, true, true, false, false, false, false, false, false] _ _
          refine heldTake (i := 13) (d := some 76) (v := ?v13_14) rfl rfl (by kernel_rfl) (by kernel_rfl) (by kernel_rfl) (fun _ _ _ h => h) (by rfl) ?hy13_14 (by assumption) ?r13_14
          case hy13_14 => (intro w hSw; (try dsimp only at hSw); go_simp; try with_reducible rfl)
          try simp only [Act.put, List.setIfInBounds_toArray, List.set_cons_zero, List.set_cons_succ]
          change wpAnyH _ _ _ _ _ 5 #[true, true, true, true, true, true, true, true, true, true, true, true, true, true, false, false, false, false, false] _ _
          refine heldTake (i := 14) (d := some 77) (v := ?v14_15) rfl rfl (by kernel_rfl) (by kernel_rfl) (by kernel_rfl) (fun _ _ _ h => h) (by rfl) ?hy14_15 (by assumption) ?r14_15
          case hy14_15 => (intro w hSw; (try dsimp only at hSw); go_simp; try with_reducible rfl)
          try simp only [Act.put, List.setIfInBounds_toArray, List.set_cons_zero, List.set_cons_succ]
          change wpAnyH _ _ _ _ _ 4 #[true, true, true, true, true, true, true, true, true, true, true, true, true, true, true, false, false, false, false] _ _
          refine heldTake (i := 15) (d := some 78) (v := ?v15_16) rfl rfl (by kernel_rfl) (by kernel_rfl) (by kernel_rfl) (fun _ _ _ h => h) (by rfl) ?hy15_16 (by assumption) ?r15_16
          case hy15_16 => (intro w0 hSw; have q0 := (hSw.at (cellLt HC2.out) (by simp) _).trans HC2.out; go_simp; try with_reducible rfl)
          try simp only [Act.put, List.setIfInBounds_toArray, List.set_cons_zero, List.set_cons_succ]
          change wpAnyH _ _ _ _ _ 3 #[true, true, true, true, true, true, true, true, true, true, true, true, true, true, true, true, false, false, false] _ _
          refine heldTake (i := 16) (d := some 79) (v := ?v16_17) rfl rfl (by kernel_rfl) (by kernel_rfl) (by kernel_rfl) (fun _ _ _ h => h) (by rfl) ?hy16_17 (by assumption) ?r16_17
          case hy16_17 => (intro w hSw; (try dsimp only at hSw); go_simp; try with_reducible rfl)
          try simp only [Act.put, List.setIfInBounds_toArray, List.set_cons_zero, List.set_cons_succ]
          change wpAnyH _ _ _ _ _ 2 #[true, true, true, true, true, true, true, true, true, true, true, true, true, true, true, true, true, false, false] _ _
          refine heldTake (i := 17) (d := some 80) (v := (.bool false)) rfl rfl (by kernel_rfl) (by kernel_rfl) (by kernel_rfl) (fun _ _ _ h => h) (by rfl) ?hy17_18 (by assumption) ?r17_18
          case hy17_18 => (intro w0 hSw; go_simp; (try simp [hxl]); all_goals omega)
          try simp only [Act.put, List.setIfInBounds_toArray, List.set_cons_zero, List.set_cons_succ]
          change wpAnyH _ _ _ _ _ 1 #[true, true, true, true, true, true, true, true, true, true, true, true, true, true, true, true, true, true, false] _ _
          refine heldTake (i := 18) (d := some 81) (v := ?v18_19) rfl rfl (by kernel_rfl) (by kernel_rfl) (by kernel_rfl) (fun _ _ _ h => h) (by rfl) ?hy18_19 (by assumption) ?r18_19
          case hy18_19 => (intro w hSw; (try dsimp only at hSw); go_simp; try with_reducible rfl)
          try simp only [Act.put, List.setIfInBounds_toArray, List.set_cons_zero, List.set_cons_succ]
          change wpAnyH _ _ _ _ _ 0 #[true, true, true, true, true, true, true, true, true, true, true, true, true, true, true, true, true, true, true] _ _
          refine wpAnyH_done (by kernel_rfl) ?_ 0
          go_wp2
          go_roundg (1000000 - (i + 1))
          · exact ⟨i + 1, by omega, rfl, by first | rfl | go_num, Lib.hid (HU.out.then hHeld)⟩
          · omega
        · have hx : ¬ (0 : Int) < (x : Int) := fun q => hm (hiff.1 (by omega))
          have HC1 := Lib.hid hc1
          have HC2 := Lib.hid hc2
          clear hiff hle hc1 hc2
          go_wp2
          refine wp_region_held_drew (S := fun w' => Upd [] wr w') (by kernel_rfl) (Upd.refl _ _).drew (fun hHeld => ?_)
          change wpAnyH _ _ _ _ _ 19 #[false, false, false, false, false, false, false, false, false, false, false, false, false, false, false, false, false, false, false] _ _
          refine heldTake (i := 0) (d := some 63) (v := ?v0_20) rfl rfl (by kernel_rfl) (by kernel_rfl) (by kernel_rfl) (fun _ _ _ h => h) (by rfl) ?hy0_20 (by assumption) ?r0_20
          case hy0_20 => (intro w hSw; (try dsimp only at hSw); go_simp; try with_reducible rfl)
          try simp only [Act.put, List.setIfInBounds_toArray, List.set_cons_zero, List.set_cons_succ]
          change wpAnyH _ _ _ _ _ 18 #[true, false, false, false, false, false, false, false, false, false, false, false, false, false, false, false, false, false, false] _ _
          refine heldTake (i := 1) (d := some 64) (v := ?v1_21) rfl rfl (by kernel_rfl) (by kernel_rfl) (by kernel_rfl) (fun _ _ _ h => h) (by rfl) ?hy1_21 (by assumption) ?r1_21
          case hy1_21 => (intro w hSw; (try dsimp only at hSw); go_simp; try with_reducible rfl)
          try simp only [Act.put, List.setIfInBounds_toArray, List.set_cons_zero, List.set_cons_succ]
          change wpAnyH _ _ _ _ _ 17 #[true, true, false, false, false, false, false, false, false, false, false, false, false, false, false, false, false, false, false] _ _
          refine heldTake (i := 2) (d := some 65) (v := ?v2_22) rfl rfl (by kernel_rfl) (by kernel_rfl) (by kernel_rfl) (fun _ _ _ h => h) (by rfl) ?hy2_22 (by assumption) ?r2_22
          case hy2_22 => (intro w hSw; (try dsimp only at hSw); go_simp; try with_reducible rfl)
          try simp only [Act.put, List.setIfInBounds_toArray, List.set_cons_zero, List.set_cons_succ]
          change wpAnyH _ _ _ _ _ 16 #[true, true, true, false, false, false, false, false, false, false, false, false, false, false, false, false, false, false, false] _ _
          refine heldTake (i := 3) (d := some 66) (v := ?v3_23) rfl rfl (by kernel_rfl) (by kernel_rfl) (by kernel_rfl) (fun _ _ _ h => h) (by rfl) ?hy3_23 (by assumption) ?r3_23
          case hy3_23 => (intro w0 hSw; have q0 := (hSw.at (cellLt HC2.out) (by simp) _).trans HC2.out; go_simp; try with_reducible rfl)
          try simp only [Act.put, List.setIfInBounds_toArray, List.set_cons_zero, List.set_cons_succ]
          change wpAnyH _ _ _ _ _ 15 #[true, true, true, true, false, false, false, false, false, false, false, false, false, false, false, false, false, false, false] _ _
          refine heldTake (i := 4) (d := some 67) (v := (.bool false)) rfl rfl (by kernel_rfl) (by kernel_rfl) (by kernel_rfl) (fun _ _ _ h => h) (by rfl) ?hy4_24 (by assumption) ?r4_24
          case hy4_24 => (intro w0 hSw; go_simp; (try simp [hx]); all_goals omega)
          try simp only [Act.put, List.setIfInBounds_toArray, List.set_cons_zero, List.set_cons_succ]
          change wpAnyH _ _ _ _ _ 14 #[true, true, true, true, true, false, false, false, false, false, false, false, false, false, false, false, false, false, false] _ _
          refine heldTake (i := 5) (d := some 68) (v := ?v5_25) rfl rfl (by kernel_rfl) (by kernel_rfl) (by kernel_rfl) (fun _ _ _ h => h) (by rfl) ?hy5_25 (by assumption) ?r5_25
          case hy5_25 => (intro w hSw; (try dsimp only at hSw); go_simp; try with_reducible rfl)
          try simp only [Act.put, List.setIfInBounds_toArray, List.set_cons_zero, List.set_cons_succ]
          change wpAnyH _ _ _ _ _ 13 #[true, true, true, true, true, true, false, false, false, false, false, false, false, false, false, false, false, false, false] _ _
          refine heldTake (i := 6) (d := some 69) (v := ?v6_26) rfl rfl (by kernel_rfl) (by kernel_rfl) (by kernel_rfl) (fun _ _ _ h => h) (by rfl) ?hy6_26 (by assumption) ?r6_26
          case hy6_26 => (intro w hSw; (try dsimp only at hSw); go_simp; try with_reducible rfl)
          try simp only [Act.put, List.setIfInBounds_toArray, List.set_cons_zero, List.set_cons_succ]
          change wpAnyH _ _ _ _ _ 12 #[true, true, true, true, true, true, true, false, false, false, false, false, false, false, false, false, false, false, false] _ _
          refine heldTake (i := 7) (d := some 70) (v := ?v7_27) rfl rfl (by kernel_rfl) (by kernel_rfl) (by kernel_rfl) (fun _ _ _ h => h) (by rfl) ?hy7_27 (by assumption) ?r7_27
          case hy7_27 => (intro w hSw; (try dsimp only at hSw); go_simp; try with_reducible rfl)
          try simp only [Act.put, List.setIfInBounds_toArray, List.set_cons_zero, List.set_cons_succ]
          change wpAnyH _ _ _ _ _ 11 #[true, true, true, true, true, true, true, true, false, false, false, false, false, false, false, false, false, false, false] _ _
          refine heldTake (i := 8) (d := some 71) (v := ?v8_28) rfl rfl (by kernel_rfl) (by kernel_rfl) (by kernel_rfl) (fun _ _ _ h => h) (by rfl) ?hy8_28 (by assumption) ?r8_28
          case hy8_28 => (intro w0 hSw; have q0 := (hSw.at (cellLt HC1.out) (by simp) _).trans HC1.out; go_simp; try with_reducible rfl)
          try simp only [Act.put, List.setIfInBounds_toArray, List.set_cons_zero, List.set_cons_succ]
          change wpAnyH _ _ _ _ _ 10 #[true, true, true, true, true, true, true, true, true, false, false, false, false, false, false, false, false, false, false] _ _
          refine heldTake (i := 9) (d := some 72) (v := (.bool false)) rfl rfl (by kernel_rfl) (by kernel_rfl) (by kernel_rfl) (fun _ _ _ h => h) (by rfl) ?hy9_29 (by assumption) ?r9_29
          case hy9_29 => (intro w0 hSw; go_simp; (try simp [hm]); all_goals omega)
          try simp only [Act.put, List.setIfInBounds_toArray, List.set_cons_zero, List.set_cons_succ]
          change wpAnyH _ _ _ _ _ 9 #[true, true, true, true, true, true, true, true, true, true, false, false, false, false, false, false, false, false, false] _ _
          refine heldTake (i := 10) (d := some 73) (v := (.bool false)) rfl rfl (by kernel_rfl) (by kernel_rfl) (by kernel_rfl) (fun _ _ _ h => h) (by rfl) ?hy10_30 (by assumption) ?r10_30
          case hy10_30 => (intro w0 hSw; go_simp; (try simp [hx]); all_goals omega)
          try simp only [Act.put, List.setIfInBounds_toArray, List.set_cons_zero, List.set_cons_succ]
          change wpAnyH _ _ _ _ _ 8 #[true, true, true, true, true, true, true, true, true, true, true, false, false, false, false, false, false, false, false] _ _
          refine heldTake (i := 11) (d := some 74) (v := ?v11_31) rfl rfl (by kernel_rfl) (by kernel_rfl) (by kernel_rfl) (fun _ _ _ h => h) (by rfl) ?hy11_31 (by assumption) ?r11_31
          case hy11_31 => (intro w hSw; (try dsimp only at hSw); go_simp; try with_reducible rfl)
          try simp only [Act.put, List.setIfInBounds_toArray, List.set_cons_zero, List.set_cons_succ]
          change wpAnyH _ _ _ _ _ 7 #[true, true, true, true, true, true, true, true, true, true, true, true, false, false, false, false, false, false, false] _ _
          refine heldTake (i := 12) (d := some 75) (v := ?v12_32) rfl rfl (by kernel_rfl) (by kernel_rfl) (by kernel_rfl) (fun _ _ _ h => h) (by rfl) ?hy12_32 (by assumption) ?r12_32
          case hy12_32 => (intro w hSw; (try dsimp only at hSw); go_simp; try with_reducible rfl)
          try simp only [Act.put, List.setIfInBounds_toArray, List.set_cons_zero, List.set_cons_succ]
          change wpAnyH _ _ _ _ _ 6 #[true, true, true, true, true, true, true, true, true, true, true, true, true, false, false, false, false, false, false] _ _
          refine heldTake (i := 13) (d := some 76) (v := ?v13_33) rfl rfl (by kernel_rfl) (by kernel_rfl) (by kernel_rfl) (fun _ _ _ h => h) (by rfl) ?hy13_33 (by assumption) ?r13_33
          case hy13_33 => (intro w hSw; (try dsimp only at hSw); go_simp; try with_reducible rfl)
          try simp only [Act.put, List.setIfInBounds_toArray, List.set_cons_zero, List.set_cons_succ]
          change wpAnyH _ _ _ _ _ 5 #[true, true, true, true, true, true, true, true, true, true, true, true, true, true, false, false, false, false, false] _ _
          refine heldTake (i := 14) (d := some 77) (v := ?v14_34) rfl rfl (by kernel_rfl) (by kernel_rfl) (by kernel_rfl) (fun _ _ _ h => h) (by rfl) ?hy14_34 (by assumption) ?r14_34
          case hy14_34 => (intro w hSw; (try dsimp only at hSw); go_simp; try with_reducible rfl)
          try simp only [Act.put, List.setIfInBounds_toArray, List.set_cons_zero, List.set_cons_succ]
          change wpAnyH _ _ _ _ _ 4 #[true, true, true, true, true, true, true, true, true, true, true, true, true, true, true, false, false, false, false] _ _
          refine heldTake (i := 15) (d := some 78) (v := ?v15_35) rfl rfl (by kernel_rfl) (by kernel_rfl) (by kernel_rfl) (fun _ _ _ h => h) (by rfl) ?hy15_35 (by assumption) ?r15_35
          case hy15_35 => (intro w0 hSw; have q0 := (hSw.at (cellLt HC2.out) (by simp) _).trans HC2.out; go_simp; try with_reducible rfl)
          try simp only [Act.put, List.setIfInBounds_toArray, List.set_cons_zero, List.set_cons_succ]
          change wpAnyH _ _ _ _ _ 3 #[true, true, true, true, true, true, true, true, true, true, true, true, true, true, true, true, false, false, false] _ _
          refine heldTake (i := 16) (d := some 79) (v := ?v16_36) rfl rfl (by kernel_rfl) (by kernel_rfl) (by kernel_rfl) (fun _ _ _ h => h) (by rfl) ?hy16_36 (by assumption) ?r16_36
          case hy16_36 => (intro w hSw; (try dsimp only at hSw); go_simp; try with_reducible rfl)
          try simp only [Act.put, List.setIfInBounds_toArray, List.set_cons_zero, List.set_cons_succ]
          change wpAnyH _ _ _ _ _ 2 #[true, true, true, true, true, true, true, true, true, true, true, true, true, true, true, true, true, false, false] _ _
          refine heldTake (i := 17) (d := some 80) (v := (.bool false)) rfl rfl (by kernel_rfl) (by kernel_rfl) (by kernel_rfl) (fun _ _ _ h => h) (by rfl) ?hy17_37 (by assumption) ?r17_37
          case hy17_37 => (intro w0 hSw; go_simp; (try simp [hxl]); all_goals omega)
          try simp only [Act.put, List.setIfInBounds_toArray, List.set_cons_zero, List.set_cons_succ]
          change wpAnyH _ _ _ _ _ 1 #[true, true, true, true, true, true, true, true, true, true, true, true, true, true, true, true, true, true, false] _ _
          refine heldTake (i := 18) (d := some 81) (v := ?v18_38) rfl rfl (by kernel_rfl) (by kernel_rfl) (by kernel_rfl) (fun _ _ _ h => h) (by rfl) ?hy18_38 (by assumption) ?r18_38
          case hy18_38 => (intro w hSw; (try dsimp only at hSw); go_simp; try with_reducible rfl)
          try simp only [Act.put, List.setIfInBounds_toArray, List.set_cons_zero, List.set_cons_succ]
          change wpAnyH _ _ _ _ _ 0 #[true, true, true, true, true, true, true, true, true, true, true, true, true, true, true, true, true, true, true] _ _
          refine wpAnyH_done (by kernel_rfl) ?_ 0
          go_wp2
          go_roundg (1000000 - (i + 1))
          · exact ⟨i + 1, by omega, rfl, by first | rfl | go_num, Lib.hid (HU.out.then hHeld)⟩
          · omega
      · have hcz : ¬ (i : Int) < (n : Int) := by omega
        obtain rfl : i = n := by omega
        go_wp2
        obtain ⟨w5, hw5⟩ : ∃ w5 : World, w5 = wr := ⟨_, rfl⟩
        subst hw5
        have HU45 := HU
        clear HU
        go_loopg [85] 1000000 (fun gg s85 wr => ∃ q : Nat, q ≤ k ∧ gg = 1000000 - q ∧ s85 = .int .i64 (q : Nat) ∧ Hid (Upd [] w4 wr))
        case atStart => exact ⟨0, by omega, rfl, rfl, HU45⟩
        case round =>
          obtain ⟨q, hqk, rfl, rfl, HU⟩ := hrel
          by_cases hc2 : q < k
          · have hcz2 : (q : Int) < (k : Int) := by omega
            obtain ⟨g, cc, hv, hg, hle⟩ := HR4.out.form' (by omega)
            cases hv
            have hqu : q < u3.length := by rw [HK.out]; exact hc2
            have hsn : u3[q] < i := by have := ((HUs.out.mem u3[q]).1 (List.getElem_mem hqu)).1; rwa [HLN.out] at this
            have hd1 := (HR4.out.upd HU.out (by simp)).cell q (u := .int .i64 (u3[q] : Nat)) (by simp [i64s, hqu])
            have hsL : u3[q] < LN.length := by rw [HF.out.len]; exact hsn
            have HFL : Hid (∀ j, q ≤ j → j < k → LN.getD (u3.getD j 0) 0 ≤ LN[u3[q]]) := Lib.hid (fun j h1 h2 => by
              have := HF.out.fall q j h1 (by rw [HK.out]; exact h2)
              rw [show u3.getD q 0 = u3[q] by simp [List.getD_eq_getElem?_getD, hqu], show LN.getD u3[q] 0 = LN[u3[q]] by simp [List.getD_eq_getElem?_getD, hsL]] at this
              exact this)
            have HC2 := Lib.hid (HB4.out.cell u3[q] (i64s_get LN u3[q] LN[u3[q]] (List.getElem?_eq_getElem hsL)))
            generalize LN[u3[q]] = y at *
            generalize u3[q] = s at *
            have hkc : (k : Int) ≤ (c2 : Int) := by omega
            have hqc : ¬ c2 = q := by omega
            have hqz : (q : Int) ≤ (k : Int) := by omega
            have hsz : (s : Int) < (i : Int) := by omega
            have hw1 : IntKind.i64.wrap ((q : Int) + 1) = ((q + 1 : Nat) : Int) := by rw [IntWalk.i64_in _ (by omega)]; rfl
            clear hqu hsL hg hle
            go_wp2
            go_loopg [94] 1000000 (fun gg s94 wr => ∃ p : Nat, p ≤ k - q ∧ gg = 1000000 - p ∧ s94 = .int .i64 (p : Nat) ∧ Hid (Upd [] w4 wr))
            case atStart => exact ⟨0, by omega, rfl, rfl, HU⟩
            case round =>
              obtain ⟨p, hpk, rfl, rfl, HU⟩ := hrel
              by_cases hc3 : p < k - q
              · have hcz3 : (p : Int) < ((k - q : Nat) : Int) := by omega
                have hju : q + p < u3.length := by rw [HK.out]; omega
                have htn : u3[q + p] < i := by have := ((HUs.out.mem u3[q + p]).1 (List.getElem_mem hju)).1; rwa [HLN.out] at this
                have hd2 := (HR4.out.upd HU.out (by simp)).cell (q + p) (u := .int .i64 (u3[q + p] : Nat)) (by simp [i64s, hju])
                have htL : u3[q + p] < LN.length := by rw [HF.out.len]; exact htn
                have hyz0 : LN[u3[q + p]] ≤ y := by
                  have := HFL.out (q + p) (by omega) (by omega)
                  rw [show u3.getD (q + p) 0 = u3[q + p] by simp [List.getD_eq_getElem?_getD, hju], show LN.getD u3[q + p] 0 = LN[u3[q + p]] by simp [List.getD_eq_getElem?_getD, htL]] at this
                  exact this
                have HC3 := Lib.hid ((HB4.out.upd HU.out (by simp)).cell u3[q + p] (i64s_get LN u3[q + p] LN[u3[q + p]] (List.getElem?_eq_getElem htL)))
                have HC2 : Hid (wr.cell? ⟨ob, s, none⟩ = some (.int .i64 (y : Nat))) := Lib.hid ((HU.out.at HB4.out.lt (by simp) s).trans HC2.out)
                generalize LN[u3[q + p]] = z at *
                generalize u3[q + p] = t at *
                have hyz : ¬ (y : Int) < (z : Int) := by omega
                have htz : (t : Int) < (i : Int) := by omega
                have hw2 : IntKind.i64.wrap ((p : Int) + 1) = ((p + 1 : Nat) : Int) := by rw [IntWalk.i64_in _ (by omega)]; rfl
                clear hju htL hyz0
                go_wp2
                refine wp_region_held_drew (S := fun w' => Upd [] wr w') (by kernel_rfl) (Upd.refl _ _).drew (fun hHeld => ?_)
                change wpAnyH _ _ _ _ _ 27 #[false, false, false, false, false, false, false, false, false, false, false, false, false, false, false, false, false, false, false, false, false, false, false, false, false, false, false] _ _
                refine heldTake (i := 0) (d := some 98) (v := ?v0_39) rfl rfl (by kernel_rfl) (by kernel_rfl) (by kernel_rfl) (fun _ _ _ h => h) (by rfl) ?hy0_39 (by assumption) ?r0_39
                case hy0_39 => (intro w hSw; (try dsimp only at hSw); go_simp; try with_reducible rfl)
                try simp only [Act.put, List.setIfInBounds_toArray, List.set_cons_zero, List.set_cons_succ]
                change wpAnyH _ _ _ _ _ 26 #[true, false, false, false, false, false, false, false, false, false, false, false, false, false, false, false, false, false, false, false, false, false, false, false, false, false, false] _ _
                refine heldTake (i := 1) (d := some 99) (v := ?v1_40) rfl rfl (by kernel_rfl) (by kernel_rfl) (by kernel_rfl) (fun _ _ _ h => h) (by rfl) ?hy1_40 (by assumption) ?r1_40
                case hy1_40 => (intro w hSw; (try dsimp only at hSw); go_simp; try with_reducible rfl)
                try simp only [Act.put, List.setIfInBounds_toArray, List.set_cons_zero, List.set_cons_succ]
                change wpAnyH _ _ _ _ _ 25 #[true, true, false, false, false, false, false, false, false, false, false, false, false, false, false, false, false, false, false, false, false, false, false, false, false, false, false] _ _
                refine heldTake (i := 2) (d := some 100) (v := ?v2_41) rfl rfl (by kernel_rfl) (by kernel_rfl) (by kernel_rfl) (fun _ _ _ h => h) (by rfl) ?hy2_41 (by assumption) ?r2_41
                case hy2_41 => (intro w hSw; (try dsimp only at hSw); go_simp; try with_reducible rfl)
                try simp only [Act.put, List.setIfInBounds_toArray, List.set_cons_zero, List.set_cons_succ]
                change wpAnyH _ _ _ _ _ 24 #[true, true, true, false, false, false, false, false, false, false, false, false, false, false, false, false, false, false, false, false, false, false, false, false, false, false, false] _ _
                refine heldTake (i := 3) (d := some 101) (v := ?v3_42) rfl rfl (by kernel_rfl) (by kernel_rfl) (by kernel_rfl) (fun _ _ _ h => h) (by rfl) ?hy3_42 (by assumption) ?r3_42
                case hy3_42 => (intro w0 hSw; have q0 := (hSw.at (cellLt HC2.out) (by simp) _).trans HC2.out; go_simp; try with_reducible rfl)
                try simp only [Act.put, List.setIfInBounds_toArray, List.set_cons_zero, List.set_cons_succ]
                change wpAnyH _ _ _ _ _ 23 #[true, true, true, true, false, false, false, false, false, false, false, false, false, false, false, false, false, false, false, false, false, false, false, false, false, false, false] _ _
                refine heldTake (i := 4) (d := some 102) (v := ?v4_43) rfl rfl (by kernel_rfl) (by kernel_rfl) (by kernel_rfl) (fun _ _ _ h => h) (by rfl) ?hy4_43 (by assumption) ?r4_43
                case hy4_43 => (intro w hSw; (try dsimp only at hSw); go_simp; try with_reducible rfl)
                try simp only [Act.put, List.setIfInBounds_toArray, List.set_cons_zero, List.set_cons_succ]
                change wpAnyH _ _ _ _ _ 22 #[true, true, true, true, true, false, false, false, false, false, false, false, false, false, false, false, false, false, false, false, false, false, false, false, false, false, false] _ _
                refine heldTake (i := 5) (d := some 103) (v := ?v5_44) rfl rfl (by kernel_rfl) (by kernel_rfl) (by kernel_rfl) (fun _ _ _ h => h) (by rfl) ?hy5_44 (by assumption) ?r5_44
                case hy5_44 => (intro w hSw; (try dsimp only at hSw); go_simp; try with_reducible rfl)
                try simp only [Act.put, List.setIfInBounds_toArray, List.set_cons_zero, List.set_cons_succ]
                change wpAnyH _ _ _ _ _ 21 #[true, true, true, true, true, true, false, false, false, false, false, false, false, false, false, false, false, false, false, false, false, false, false, false, false, false, false] _ _
                refine heldTake (i := 6) (d := some 104) (v := ?v6_45) rfl rfl (by kernel_rfl) (by kernel_rfl) (by kernel_rfl) (fun _ _ _ h => h) (by rfl) ?hy6_45 (by assumption) ?r6_45
                case hy6_45 => (intro w hSw; (try dsimp only at hSw); go_simp; try with_reducible rfl)
                try simp only [Act.put, List.setIfInBounds_toArray, List.set_cons_zero, List.set_cons_succ]
                change wpAnyH _ _ _ _ _ 20 #[true, true, true, true, true, true, true, false, false, false, false, false, false, false, false, false, false, false, false, false, false, false, false, false, false, false, false] _ _
                refine heldTake (i := 7) (d := some 105) (v := ?v7_46) rfl rfl (by kernel_rfl) (by kernel_rfl) (by kernel_rfl) (fun _ _ _ h => h) (by rfl) ?hy7_46 (by assumption) ?r7_46
                case hy7_46 => (intro w0 hSw; have q0 := (hSw.at (cellLt HC3.out) (by simp) _).trans HC3.out; go_simp; try with_reducible rfl)
                try simp only [Act.put, List.setIfInBounds_toArray, List.set_cons_zero, List.set_cons_succ]
                change wpAnyH _ _ _ _ _ 19 #[true, true, true, true, true, true, true, true, false, false, false, false, false, false, false, false, false, false, false, false, false, false, false, false, false, false, false] _ _
                refine heldTake (i := 8) (d := some 106) (v := (.bool false)) rfl rfl (by kernel_rfl) (by kernel_rfl) (by kernel_rfl) (fun _ _ _ h => h) (by rfl) ?hy8_47 (by assumption) ?r8_47
                case hy8_47 => (intro w0 hSw; go_simp; (try simp [hyz]); all_goals omega)
                try simp only [Act.put, List.setIfInBounds_toArray, List.set_cons_zero, List.set_cons_succ]
                change wpAnyH _ _ _ _ _ 18 #[true, true, true, true, true, true, true, true, true, false, false, false, false, false, false, false, false, false, false, false, false, false, false, false, false, false, false] _ _
                refine heldTake (i := 9) (d := some 107) (v := ?v9_48) rfl rfl (by kernel_rfl) (by kernel_rfl) (by kernel_rfl) (fun _ _ _ h => h) (by rfl) ?hy9_48 (by assumption) ?r9_48
                case hy9_48 => (intro w hSw; (try dsimp only at hSw); go_simp; try with_reducible rfl)
                try simp only [Act.put, List.setIfInBounds_toArray, List.set_cons_zero, List.set_cons_succ]
                change wpAnyH _ _ _ _ _ 17 #[true, true, true, true, true, true, true, true, true, true, false, false, false, false, false, false, false, false, false, false, false, false, false, false, false, false, false] _ _
                refine heldSkip (i := 10) (d := some 108) rfl rfl (by kernel_rfl) (by kernel_rfl) (by kernel_rfl) (fun _ _ _ h => h) (by rfl) (by assumption) ?r10_49
                try simp only [Act.put, List.setIfInBounds_toArray, List.set_cons_zero, List.set_cons_succ]
                change wpAnyH _ _ _ _ _ 16 #[true, true, true, true, true, true, true, true, true, true, true, false, false, false, false, false, false, false, false, false, false, false, false, false, false, false, false] _ _
                refine heldSkip (i := 11) (d := some 109) rfl rfl (by kernel_rfl) (by kernel_rfl) (by kernel_rfl) (fun _ _ _ h => h) (by rfl) (by assumption) ?r11_50
                try simp only [Act.put, List.setIfInBounds_toArray, List.set_cons_zero, List.set_cons_succ]
                change wpAnyH _ _ _ _ _ 15 #[true, true, true, true, true, true, true, true, true, true, true, true, false, false, false, false, false, false, false, false, false, false, false, false, false, false, false] _ _
                refine heldSkip (i := 12) (d := some 110) rfl rfl (by kernel_rfl) (by kernel_rfl) (by kernel_rfl) (fun _ _ _ h => h) (by rfl) (by assumption) ?r12_51
                try simp only [Act.put, List.setIfInBounds_toArray, List.set_cons_zero, List.set_cons_succ]
                change wpAnyH _ _ _ _ _ 14 #[true, true, true, true, true, true, true, true, true, true, true, true, true, false, false, false, false, false, false, false, false, false, false, false, false, false, false] _ _
                refine heldSkip (i := 13) (d := some 111) rfl rfl (by kernel_rfl) (by kernel_rfl) (by kernel_rfl) (fun _ _ _ h => h) (by rfl) (by assumption) ?r13_52
                try simp only [Act.put, List.setIfInBounds_toArray, List.set_cons_zero, List.set_cons_succ]
                change wpAnyH _ _ _ _ _ 13 #[true, true, true, true, true, true, true, true, true, true, true, true, true, true, false, false, false, false, false, false, false, false, false, false, false, false, false] _ _
                refine heldSkip (i := 14) (d := some 112) rfl rfl (by kernel_rfl) (by kernel_rfl) (by kernel_rfl) (fun _ _ _ h => h) (by rfl) (by assumption) ?r14_53
                try simp only [Act.put, List.setIfInBounds_toArray, List.set_cons_zero, List.set_cons_succ]
                change wpAnyH _ _ _ _ _ 12 #[true, true, true, true, true, true, true, true, true, true, true, true, true, true, true, false, false, false, false, false, false, false, false, false, false, false, false] _ _
                refine heldSkip (i := 15) (d := some 113) rfl rfl (by kernel_rfl) (by kernel_rfl) (by kernel_rfl) (fun _ _ _ h => h) (by rfl) (by assumption) ?r15_54
                try simp only [Act.put, List.setIfInBounds_toArray, List.set_cons_zero, List.set_cons_succ]
                change wpAnyH _ _ _ _ _ 11 #[true, true, true, true, true, true, true, true, true, true, true, true, true, true, true, true, false, false, false, false, false, false, false, false, false, false, false] _ _
                refine heldSkip (i := 16) (d := some 114) rfl rfl (by kernel_rfl) (by kernel_rfl) (by kernel_rfl) (fun _ _ _ h => h) (by rfl) (by assumption) ?r16_55
                try simp only [Act.put, List.setIfInBounds_toArray, List.set_cons_zero, List.set_cons_succ]
                change wpAnyH _ _ _ _ _ 10 #[true, true, true, true, true, true, true, true, true, true, true, true, true, true, true, true, true, false, false, false, false, false, false, false, false, false, false] _ _
                refine heldSkip (i := 17) (d := some 115) rfl rfl (by kernel_rfl) (by kernel_rfl) (by kernel_rfl) (fun _ _ _ h => h) (by rfl) (by assumption) ?r17_56
                try simp only [Act.put, List.setIfInBounds_toArray, List.set_cons_zero, List.set_cons_succ]
                change wpAnyH _ _ _ _ _ 9 #[true, true, true, true, true, true, true, true, true, true, true, true, true, true, true, true, true, true, false, false, false, false, false, false, false, false, false] _ _
                refine heldSkip (i := 18) (d := some 116) rfl rfl (by kernel_rfl) (by kernel_rfl) (by kernel_rfl) (fun _ _ _ h => h) (by rfl) (by assumption) ?r18_57
                try simp only [Act.put, List.setIfInBounds_toArray, List.set_cons_zero, List.set_cons_succ]
                change wpAnyH _ _ _ _ _ 8 #[true, true, true, true, true, true, true, true, true, true, true, true, true, true, true, true, true, true, true, false, false, false, false, false, false, false, false] _ _
                refine heldTake (i := 19) (d := some 117) (v := ?v19_58) rfl rfl (by kernel_rfl) (by kernel_rfl) (by kernel_rfl) (fun _ _ _ h => h) (by rfl) ?hy19_58 (by assumption) ?r19_58
                case hy19_58 => (intro w hSw; (try dsimp only at hSw); go_simp; try with_reducible rfl)
                try simp only [Act.put, List.setIfInBounds_toArray, List.set_cons_zero, List.set_cons_succ]
                change wpAnyH _ _ _ _ _ 7 #[true, true, true, true, true, true, true, true, true, true, true, true, true, true, true, true, true, true, true, true, false, false, false, false, false, false, false] _ _
                refine heldTake (i := 20) (d := some 118) (v := ?v20_59) rfl rfl (by kernel_rfl) (by kernel_rfl) (by kernel_rfl) (fun _ _ _ h => h) (by rfl) ?hy20_59 (by assumption) ?r20_59
                case hy20_59 => (intro w hSw; (try dsimp only at hSw); go_simp; try with_reducible rfl)
                try simp only [Act.put, List.setIfInBounds_toArray, List.set_cons_zero, List.set_cons_succ]
                change wpAnyH _ _ _ _ _ 6 #[true, true, true, true, true, true, true, true, true, true, true, true, true, true, true, true, true, true, true, true, true, false, false, false, false, false, false] _ _
                refine heldSkip (i := 21) (d := some 119) rfl rfl (by kernel_rfl) (by kernel_rfl) (by kernel_rfl) (fun _ _ _ h => h) (by rfl) (by assumption) ?r21_60
                try simp only [Act.put, List.setIfInBounds_toArray, List.set_cons_zero, List.set_cons_succ]
                change wpAnyH _ _ _ _ _ 5 #[true, true, true, true, true, true, true, true, true, true, true, true, true, true, true, true, true, true, true, true, true, true, false, false, false, false, false] _ _
                refine heldSkip (i := 22) (d := some 120) rfl rfl (by kernel_rfl) (by kernel_rfl) (by kernel_rfl) (fun _ _ _ h => h) (by rfl) (by assumption) ?r22_61
                try simp only [Act.put, List.setIfInBounds_toArray, List.set_cons_zero, List.set_cons_succ]
                change wpAnyH _ _ _ _ _ 4 #[true, true, true, true, true, true, true, true, true, true, true, true, true, true, true, true, true, true, true, true, true, true, true, false, false, false, false] _ _
                refine heldSkip (i := 23) (d := some 121) rfl rfl (by kernel_rfl) (by kernel_rfl) (by kernel_rfl) (fun _ _ _ h => h) (by rfl) (by assumption) ?r23_62
                try simp only [Act.put, List.setIfInBounds_toArray, List.set_cons_zero, List.set_cons_succ]
                change wpAnyH _ _ _ _ _ 3 #[true, true, true, true, true, true, true, true, true, true, true, true, true, true, true, true, true, true, true, true, true, true, true, true, false, false, false] _ _
                refine heldSkip (i := 24) (d := some 122) rfl rfl (by kernel_rfl) (by kernel_rfl) (by kernel_rfl) (fun _ _ _ h => h) (by rfl) (by assumption) ?r24_63
                try simp only [Act.put, List.setIfInBounds_toArray, List.set_cons_zero, List.set_cons_succ]
                change wpAnyH _ _ _ _ _ 2 #[true, true, true, true, true, true, true, true, true, true, true, true, true, true, true, true, true, true, true, true, true, true, true, true, true, false, false] _ _
                refine heldSkip (i := 25) (d := some 123) rfl rfl (by kernel_rfl) (by kernel_rfl) (by kernel_rfl) (fun _ _ _ h => h) (by rfl) (by assumption) ?r25_64
                try simp only [Act.put, List.setIfInBounds_toArray, List.set_cons_zero, List.set_cons_succ]
                change wpAnyH _ _ _ _ _ 1 #[true, true, true, true, true, true, true, true, true, true, true, true, true, true, true, true, true, true, true, true, true, true, true, true, true, true, false] _ _
                refine heldTake (i := 26) (d := some 124) (v := ?v26_65) rfl rfl (by kernel_rfl) (by kernel_rfl) (by kernel_rfl) (fun _ _ _ h => h) (by rfl) ?hy26_65 (by assumption) ?r26_65
                case hy26_65 => (intro w hSw; (try dsimp only at hSw); go_simp; try with_reducible rfl)
                try simp only [Act.put, List.setIfInBounds_toArray, List.set_cons_zero, List.set_cons_succ]
                change wpAnyH _ _ _ _ _ 0 #[true, true, true, true, true, true, true, true, true, true, true, true, true, true, true, true, true, true, true, true, true, true, true, true, true, true, true] _ _
                refine wpAnyH_done (by kernel_rfl) ?_ 0
                go_wp2
                go_roundg (1000000 - (p + 1))
                · exact ⟨p + 1, by omega, rfl, by first | rfl | go_num, Lib.hid (HU.out.then hHeld)⟩
                · omega
              · have hcz3 : ¬ (p : Int) < ((k - q : Nat) : Int) := by omega
                go_wp2
                go_roundg (1000000 - (q + 1))
                · exact ⟨q + 1, by omega, rfl, by first | rfl | go_num, HU⟩
                · omega
          · have hcz2 : ¬ (q : Int) < (k : Int) := by omega
            obtain rfl : q = k := by omega
            have hkk := kind_fit HF.out (by omega) hl2
            rw [HK.out] at hkk
            have hIL : IntsIn wr (some ⟨ob, 0, none⟩) i (ints LN) := IntsIn.blk (HB4.out.upd HU.out (by simp)) HF.out.len (fun x hx => by
              obtain ⟨j, hj, rfl⟩ := List.getElem_of_mem hx
              have := HF.out.le j (by rw [← HF.out.len]; exact hj)
              rw [List.getD_eq_getElem?_getD, List.getElem?_eq_getElem hj] at this
              simp at this
              omega)
            have HKD := Lib.hid (rkind_any (some ⟨ob, 0, none⟩) i i (ints LN) wr (by omega) hIL)
            have HKK := Lib.hid hkk
            have HB5 := Lib.hid (HB4.out.upd HU.out (by simp))
            have HR5 := Lib.hid (HR4.out.upd HU.out (by simp))
            have HUc := Lib.hid (HUc.out.then HU.out)
            clear hkk hIL HU HB4 HR4
            go_wp2_with fail
            refine HKD.out.mono ?_
            rintro e w8 ⟨rfl, rfl⟩
            rcases Nat.lt_or_ge q 2 with hq2 | hq2
            · rcases Nat.lt_or_ge q 1 with hq1 | hq1
              · obtain rfl : q = 0 := by omega
                rw [HKK.out.1 rfl]
                go_wp2_with fail
                refine (lives_any _).mono ?_
                rintro e w9 ⟨rfl, hU9⟩
                have HU9 := Lib.hid (HUc.out.then hU9)
                clear hU9
                go_wp2
                go_ret
                exact ⟨rfl, HU9.out⟩
              · obtain rfl : q = 1 := by omega
                obtain ⟨g, cc, hv, hg, hle⟩ := HR5.out.form' (by omega)
                cases hv
                have h0u : 0 < u3.length := by rw [HK.out]; omega
                have hd1 := HR5.out.cell 0 (u := .int .i64 (u3[0] : Nat)) (by simp [i64s, h0u])
                have hsn : u3[0] < i := by have := ((HUs.out.mem u3[0]).1 (List.getElem_mem h0u)).1; rwa [HLN.out] at this
                have hsL : u3[0] < LN.length := by rw [HF.out.len]; exact hsn
                have hone : LN[u3[0]] = 1 := by
                  have := HF.out.one HK.out
                  rw [show u3.getD 0 0 = u3[0] by simp [List.getD_eq_getElem?_getD, h0u], show LN.getD u3[0] 0 = LN[u3[0]] by simp [List.getD_eq_getElem?_getD, hsL]] at this
                  exact this
                have hd2 := HB5.out.cell u3[0] (i64s_get LN u3[0] LN[u3[0]] (List.getElem?_eq_getElem hsL))
                rw [hone] at hd2
                generalize u3[0] = s at *
                have hsz : (s : Int) < (i : Int) := by omega
                clear h0u hsL hone hg hle
                go_wp2_with fail
                refine (lives_any _).mono ?_
                rintro e w9 ⟨rfl, hU9⟩
                have HU9 := Lib.hid (HUc.out.then hU9)
                clear hU9
                go_wp2
                go_ret
                exact ⟨rfl, HU9.out⟩
            · rw [HKK.out.2 hq2]
              have hq0z : ¬ (q : Int) = 0 := by omega
              have hq1z : ¬ (q : Int) = 1 := by omega
              have hq2z : ¬ (q : Int) < 2 := by omega
              go_wp2_with fail
              refine (lives_any _).mono ?_
              rintro e w9 ⟨rfl, hU9⟩
              have HU9 := Lib.hid (HUc.out.then hU9)
              clear hU9
              go_wp2
              go_ret
              exact ⟨rfl, HU9.out⟩
end Go.Proofs.Ytdehkaknbmbieaa
