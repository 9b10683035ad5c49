/- Package dos: split: walks. -/
import Derived.Test.YtdehkaknbmbieaaGA
namespace Go.Proofs.Ytdehkaknbmbieaa
set_option linter.unusedVariables false
set_option linter.unusedSimpArgs false
set_option linter.unusedSectionVars false
open Go.RowKit
set_option linter.unusedVariables false

end Go.Proofs.Ytdehkaknbmbieaa
namespace Go.Proofs.Ytdehkaknbmbieaa
set_option linter.unusedVariables false
set_option linter.unusedSimpArgs false
set_option linter.unusedSectionVars false
open Go.RowKit
set_option linter.unusedVariables false

def partsL (t : Nat) : List Value := [.int .i64 (1980 + (t : Int) / 33554432 % 128), .int .i64 ((t : Int) / 2097152 % 16), .int .i64 ((t : Int) / 65536 % 32), .int .i64 ((t : Int) / 2048 % 32), .int .i64 ((t : Int) / 32 % 64), .int .i64 (2 * ((t : Int) % 32))]
theorem infoDT : (Try.prog.info? 154).map (·.size) = some 6 := by kernel_rfl
theorem infoRT : (Try.prog.info? 157).map (·.size) = some 6 := by kernel_rfl

theorem din_any (a b : Int) (w : World) : Calls Try.prog 147 #[.int .i64 a, .int .i64 b] w fun e w' => e = .returned (.bool (decide (0 ≤ a) && decide (a < b))) ∧ w = w' := by
  by_cases h : 0 ≤ a
  · have t1 : decide (0 ≤ a) = true := decide_eq_true h
    go_enter Try.func147, Try.ntmps147
    go_wp2
    go_returns
    exact ⟨by simp [t1], rfl⟩
  · have t1 : decide (0 ≤ a) = false := decide_eq_false h
    go_enter Try.func147, Try.ntmps147
    go_wp2
    go_returns
    exact ⟨by simp [t1], rfl⟩
end Go.Proofs.Ytdehkaknbmbieaa
namespace Go.Proofs.Ytdehkaknbmbieaa
set_option linter.unusedVariables false
set_option linter.unusedSimpArgs false
set_option linter.unusedSectionVars false
open Go.RowKit
set_option linter.unusedVariables false

def leapB (y : Int) : Bool := decide (y % 4 = 0) && decide (y ≠ 2100)
def daysN (y m : Int) : Int := if m < 1 ∨ 12 < m then 0 else if m = 2 then (if leapB y = true then 29 else 28) else if m = 4 ∨ m = 6 ∨ m = 9 ∨ m = 11 then 30 else 31
theorem dleap_any (y : Int) (w : World) (hy : 1980 ≤ y) (hy2 : y ≤ 2107) : Calls Try.prog 127 #[.int .i64 y] w fun e w' => e = .returned (.bool (leapB y)) ∧ w = w' := by
  have h0 : (0 : Int) ≤ y := by omega
  by_cases h : y % 4 = 0
  · have t1 : (y % 4 == 0) = true := by simp [h]
    have HB := Lib.hid (show leapB y = (y != 2100) from by unfold leapB; rw [decide_eq_true h]; by_cases h2 : y = 2100 <;> simp [h2])
    clear h
    go_enter Try.func127, Try.ntmps127
    go_wp2
    go_returns
    exact ⟨by rw [HB.out]; rfl, rfl⟩
  · have t1 : (y % 4 == 0) = false := by simp [h]
    have HB := Lib.hid (show leapB y = false from by unfold leapB; rw [decide_eq_false h]; rfl)
    clear h
    go_enter Try.func127, Try.ntmps127
    go_wp2
    go_returns
    exact ⟨by rw [HB.out]; rfl, rfl⟩
set_option maxRecDepth 100000 in
set_option maxHeartbeats 6400000 in
theorem ddays_any (y m : Int) (w : World) (hy : 1980 ≤ y) (hy2 : y ≤ 2107) (hm0 : 0 ≤ m) (hm : m ≤ 15) : Calls Try.prog 96 #[.int .i64 y, .int .i64 m] w fun e w' => e = .returned (.int .i64 (daysN y m)) ∧ Upd [] w w' := by
  have t1 : decide (y < 1980) = false := decide_eq_false (by omega)
  have t2 : decide (2107 < y) = false := decide_eq_false (by omega)
  have HL := Lib.hid (fun w' => dleap_any y w' hy hy2)
  by_cases h2 : m = 2
  · subst h2
    cases hb : leapB y with
    | true =>
      have HB := Lib.hid (show daysN y 2 = 29 from by unfold daysN; rw [hb]; rfl)
      rw [hb] at HL
      go_enter Try.func96, Try.ntmps96
      go_wp2_with fail
      refine (HL.out _).mono ?_
      rintro e w1 ⟨rfl, rfl⟩
      go_wp2
      go_returns
      exact ⟨by rw [HB.out]; rfl, (Upd.refl _ _).alloc _⟩
    | false =>
      have HB := Lib.hid (show daysN y 2 = 28 from by unfold daysN; rw [hb]; rfl)
      rw [hb] at HL
      go_enter Try.func96, Try.ntmps96
      go_wp2_with fail
      refine (HL.out _).mono ?_
      rintro e w1 ⟨rfl, rfl⟩
      go_wp2
      go_returns
      exact ⟨by rw [HB.out]; rfl, (Upd.refl _ _).alloc _⟩
  · clear HL
    rcases (by omega : m = 0 ∨ m = 1 ∨ m = 2 ∨ m = 3 ∨ m = 4 ∨ m = 5 ∨ m = 6 ∨ m = 7 ∨ m = 8 ∨ m = 9 ∨ m = 10 ∨ m = 11 ∨ m = 12 ∨ m = 13 ∨ m = 14 ∨ m = 15) with rfl | rfl | rfl | rfl | rfl | rfl | rfl | rfl | rfl | rfl | rfl | rfl | rfl | rfl | rfl | rfl
    all_goals first
      | (exact absurd rfl h2)
      | (clear h2
         go_enter Try.func96, Try.ntmps96
         go_wp2
         go_returns
         first | exact ⟨rfl, (Upd.refl _ _).alloc _⟩ | exact ⟨rfl, .refl _ _⟩)
set_option maxRecDepth 100000 in
set_option maxHeartbeats 6400000 in
theorem rdays_any (y m : Int) (w : World) (hy : 1980 ≤ y) (hy2 : y ≤ 2107) (hm0 : 0 ≤ m) (hm : m ≤ 15) : Calls Try.prog 129 #[.int .i64 y, .int .i64 m] w fun e w' => e = .returned (.int .i64 (daysN y m)) ∧ w = w' := by
  have t1 : decide (y < 1980) = false := decide_eq_false (by omega)
  have t2 : decide (2107 < y) = false := decide_eq_false (by omega)
  have h0 : (0 : Int) ≤ y := by omega
  by_cases h2 : m = 2
  · subst h2
    by_cases h4 : y % 4 = 0
    · have t3 : (y % 4 == 0) = true := by simp [h4]
      by_cases h5 : y = 2100
      · have HB := Lib.hid (show daysN y 2 = 28 from by subst h5; rfl)
        have t4 : (y != 2100) = false := by simp [h5]
        clear h4 h5
        go_enter Try.func129, Try.ntmps129
        go_wp2
        go_returns
        exact ⟨by rw [HB.out]; rfl, rfl⟩
      · have HB := Lib.hid (show daysN y 2 = 29 from by unfold daysN leapB; simp [h4, h5])
        have t4 : (y != 2100) = true := by simp [h5]
        clear h4 h5
        go_enter Try.func129, Try.ntmps129
        go_wp2
        go_returns
        exact ⟨by rw [HB.out]; rfl, rfl⟩
    · have t3 : (y % 4 == 0) = false := by simp [h4]
      have HB := Lib.hid (show daysN y 2 = 28 from by unfold daysN leapB; simp [h4])
      clear h4
      go_enter Try.func129, Try.ntmps129
      go_wp2
      go_returns
      exact ⟨by rw [HB.out]; rfl, rfl⟩
  · rcases (by omega : m = 0 ∨ m = 1 ∨ m = 2 ∨ m = 3 ∨ m = 4 ∨ m = 5 ∨ m = 6 ∨ m = 7 ∨ m = 8 ∨ m = 9 ∨ m = 10 ∨ m = 11 ∨ m = 12 ∨ m = 13 ∨ m = 14 ∨ m = 15) with rfl | rfl | rfl | rfl | rfl | rfl | rfl | rfl | rfl | rfl | rfl | rfl | rfl | rfl | rfl | rfl
    all_goals first
      | (exact absurd rfl h2)
      | (clear h2
         go_enter Try.func129, Try.ntmps129
         go_wp2
         go_returns
         exact ⟨rfl, rfl⟩)
end Go.Proofs.Ytdehkaknbmbieaa
