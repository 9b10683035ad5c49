/- Packages node and swingleref01: a number's decimal digits: walks. -/
import Derived.Test.YtibmhadnfggmlaaDoorNMode
namespace Go.Proofs.YtibmhadnfggmlaaDoor
set_option linter.unusedVariables false
set_option linter.unusedSimpArgs false
set_option linter.unusedSectionVars false
open Go.RowKit
set_option linter.unusedVariables false
set_option linter.unusedSimpArgs false

/-- The decimal digits of a number. -/
def decL (n : Nat) : List Nat := if h : n < 10 then [48 + n] else decL (n / 10) ++ [48 + n % 10]
termination_by n
decreasing_by omega
theorem decL_small (n : Nat) (h : n < 10) : decL n = [48 + n] := by rw [decL, dif_pos h]
theorem decL_big (n : Nat) (h : ¬ n < 10) : decL n = decL (n / 10) ++ [48 + n % 10] := by rw [decL, dif_neg h]
theorem decL_len : ∀ (k n : Nat), n < 10 ^ k → (decL n).length ≤ k + 1
  | 0, n, h => by rw [decL_small n (by omega)]; simp
  | k + 1, n, h => by
    by_cases h10 : n < 10
    · rw [decL_small n h10]; simp
    · rw [decL_big n h10, List.length_append]
      have := decL_len k (n / 10) (by rw [Nat.pow_succ] at h; omega)
      simp; omega
theorem decL_dig : ∀ (k n : Nat), n < 10 ^ k → ∀ x ∈ decL n, 48 ≤ x ∧ x ≤ 57
  | 0, n, h, x, hx => by rw [decL_small n (by omega)] at hx; simp at hx; omega
  | k + 1, n, h, x, hx => by
    by_cases h10 : n < 10
    · rw [decL_small n h10] at hx; simp at hx; omega
    · rw [decL_big n h10] at hx
      rcases List.mem_append.1 hx with hx | hx
      · exact decL_dig k (n / 10) (by rw [Nat.pow_succ] at h; omega) x hx
      · simp at hx; omega
theorem conv1_row (n : Nat) (w : World) : (convert 28 9 (.slice (some ⟨w.heap.size, 0, none⟩) 1 1)).run Tryd.prog (w.alloc (.cells #[.int .u8 (48 + (n : Int) % 10)] 5)) = .ok (.string (strOf [48 + n % 10])) (w.alloc (.cells #[.int .u8 (48 + (n : Int) % 10)] 5)) := by
  have hB := Blk.new w (u8s [48 + n % 10]) 5
  have hcv := hB.conv (P := Tryd.prog) (c := 1) (n := 1) rfl Tryd.underlying28 Tryd.underlying5 Tryd.underlying9
  have hw2 : ((48 + n % 10 : Nat) : Int) = 48 + (n : Int) % 10 := by omega
  unfold u8s at hcv
  simp only [List.map_cons, List.map_nil] at hcv
  rw [hw2] at hcv
  exact hcv
theorem conv1_small (n : Nat) (w : World) : (convert 28 9 (.slice (some ⟨w.heap.size, 0, none⟩) 1 1)).run Tryd.prog (w.alloc (.cells #[.int .u8 (48 + (n : Int))] 5)) = .ok (.string (strOf [48 + n])) (w.alloc (.cells #[.int .u8 (48 + (n : Int))] 5)) := by
  have hB := Blk.new w (u8s [48 + n]) 5
  have hcv := hB.conv (P := Tryd.prog) (c := 1) (n := 1) rfl Tryd.underlying28 Tryd.underlying5 Tryd.underlying9
  have hw2 : ((48 + n : Nat) : Int) = 48 + (n : Int) := by omega
  unfold u8s at hcv
  simp only [List.map_cons, List.map_nil] at hcv
  rw [hw2] at hcv
  exact hcv
theorem add1_row (d : Nat) (L : List Nat) (hL : L.length ≤ 100) (w : World) : (Op.stringOp .add (strOf [d]) (strOf L)).run Tryd.prog w = .ok (.string (strOf (d :: L))) w := by
  rw [run_string_add_sum _ _ _ (by rw [size_strOf, size_strOf]; simp; omega), ← strOf_cat]; rfl
set_option maxRecDepth 100000 in
set_option maxHeartbeats 3200000 in
theorem ndec_any (n : Nat) (w : World) (hn : n < 1000000) : Calls Tryd.prog 71 #[.int .i64 (n : Nat)] w fun e w' => e = .returned (.string (strOf (decL n))) ∧ Upd [] w w' := by
  go_enter Tryd.func71, Tryd.ntmps71
  go_wp2
  go_loopg [0, 3] (0 + n) (fun gg s0 s3 wr => ∃ (m : Nat) (L : List Nat), gg = 0 + m ∧ s0 = .int .i64 (m : Nat) ∧ s3 = .string (strOf L) ∧ Hid (decL n = decL m ++ L) ∧ m < 1000000 ∧ Hid (L.length ≤ 7) ∧ Hid (Upd [] w wr))
  case atStart => exact ⟨n, [], rfl, rfl, rfl, Lib.hid (by simp), hn, Lib.hid (by simp), Lib.hid (Upd.refl _ _)⟩
  case round =>
    obtain ⟨m, L, rfl, rfl, rfl, HM, hm, HL, HU⟩ := hrel
    have HA := Lib.hid (fun d w => add1_row d L (by have := HL.out; omega) w)
    by_cases hc : 9 < m
    · have hcz : (9 : Int) < (m : Int) := by omega
      have hcv := conv1_row m wr
      have hadd := fun w => HA.out (48 + m % 10) w
      have HL2 : Hid (decL n = decL (m / 10) ++ ((48 + m % 10) :: L)) := Lib.hid (by rw [HM.out, decL_big m (by omega), List.append_assoc]; rfl)
      have HL7 : Hid (((48 + m % 10) :: L).length ≤ 7) := Lib.hid (by
        have h1 := HL2.out
        have h2 := decL_len 6 n (by omega)
        have h3 : 0 < (decL (m / 10)).length := by
          by_cases h : m / 10 < 10
          · rw [decL_small _ h]; simp
          · rw [decL_big _ h]; simp
        rw [h1, List.length_append] at h2
        omega)
      generalize ((48 + m % 10) :: L) = L2 at *
      go_wp2
      go_roundg (0 + m / 10)
      · exact ⟨m / 10, L2, rfl, by first | rfl | go_num, rfl, HL2, by omega, HL7, Lib.hid (HU.out.alloc _)⟩
      · omega
    · have hcz : ¬ (9 : Int) < (m : Int) := by omega
      have hcv := conv1_small m wr
      have hadd := fun w => HA.out (48 + m) w
      have HL2 : Hid (decL n = (48 + m) :: L) := Lib.hid (by rw [HM.out, decL_small m (by omega)]; rfl)
      generalize ((48 + m) :: L) = L2 at *
      go_wp2
      go_ret
      exact ⟨by rw [HL2.out]; rfl, HU.out.alloc _⟩
set_option maxRecDepth 100000 in
set_option maxHeartbeats 3200000 in
theorem rdec_any (n : Nat) (w : World) (hn : n < 1000000) : Calls Tryd.prog 65 #[.int .i64 (n : Nat)] w fun e w' => e = .returned (.string (strOf (decL n))) ∧ Upd [] w w' := by
  have hcz0 : ¬ (n : Int) < 0 := by omega
  have hcv := conv1_row n w
  go_enter Tryd.func65, Tryd.ntmps65
  go_wp2
  clear hcv
  have hU0 : Upd [] w (w.alloc (.cells #[.int .u8 (48 + (n : Int) % 10)] 5)) := (Upd.refl [] w).alloc _
  have HU0 := Lib.hid hU0
  clear hU0
  generalize w.alloc (.cells #[.int .u8 (48 + (n : Int) % 10)] 5) = w0 at *
  go_loopg [0, 3] (0 + n / 10) (fun gg s0 s3 wr => ∃ (m : Nat) (L : List Nat), gg = 0 + m ∧ s0 = .int .i64 (m : Nat) ∧ s3 = .string (strOf L) ∧ Hid (decL n = (if m = 0 then [] else decL m) ++ L) ∧ m < 1000000 ∧ Hid (L.length ≤ 7) ∧ Hid (Upd [] w wr))
  case atStart =>
    refine ⟨n / 10, [48 + n % 10], rfl, by first | rfl | go_num, rfl, Lib.hid ?_, by omega, Lib.hid (by simp), HU0⟩
    by_cases h : n < 10
    · rw [if_pos (by omega), decL_small n h, Nat.mod_eq_of_lt h]; rfl
    · rw [if_neg (by omega), decL_big n h]
  case round =>
    obtain ⟨m, L, rfl, rfl, rfl, HM, hm, HL, HU⟩ := hrel
    clear HU0
    have HA := Lib.hid (fun d w => add1_row d L (by have := HL.out; omega) w)
    by_cases hc : 0 < m
    · have hcz : (0 : Int) < (m : Int) := by omega
      have hcv := conv1_row m wr
      have hadd := fun w => HA.out (48 + m % 10) w
      have HL2 : Hid (decL n = (if m / 10 = 0 then [] else decL (m / 10)) ++ ((48 + m % 10) :: L)) := Lib.hid (by
        rw [HM.out, if_neg (by omega)]
        by_cases h : m < 10
        · rw [if_pos (by omega), decL_small m h, Nat.mod_eq_of_lt h]; rfl
        · rw [if_neg (by omega), decL_big m h, List.append_assoc]; rfl)
      have HL7 : Hid (((48 + m % 10) :: L).length ≤ 7) := Lib.hid (by
        have h1 := HL2.out
        have h2 := decL_len 6 n (by omega)
        rw [h1, List.length_append] at h2
        omega)
      generalize ((48 + m % 10) :: L) = L2 at *
      go_wp2
      go_roundg (0 + m / 10)
      · exact ⟨m / 10, L2, rfl, by first | rfl | go_num, rfl, HL2, by omega, HL7, Lib.hid (HU.out.alloc _)⟩
      · omega
    · have hcz : ¬ (0 : Int) < (m : Int) := by omega
      have hm0 : m = 0 := by omega
      subst hm0
      have HL2 : Hid (decL n = L) := Lib.hid (by rw [HM.out, if_pos rfl]; rfl)
      go_wp2
      go_ret
      exact ⟨by rw [HL2.out]; rfl, HU.out⟩
end Go.Proofs.YtibmhadnfggmlaaDoor
