/- Package lens: near; comparisons of numbers; cmp.Or. -/
import Derived.Test.YtdehkaknbmbieaaIntB
import Derived.Test.YtdehkaknbmbieaaLensP
namespace Go.Proofs.Ytdehkaknbmbieaa
set_option linter.unusedVariables false
set_option linter.unusedSimpArgs false
set_option linter.unusedSectionVars false
open Go.RowKit
set_option linter.unusedVariables false
set_option linter.unusedSimpArgs false

theorem nearN_int (n : Int) : max 0 (min n 1073741824) = ((nearN n : Nat) : Int) := by unfold nearN; omega
theorem near_any (n : Int) (w : World) : Calls Try.prog 52 #[.int .i64 n] w fun e w' => e = .returned (.int .i64 (nearN n : Nat)) ∧ w = w' := by
  have h := nearN_int n
  generalize nearN n = N at *
  go_enter Try.func52, Try.ntmps52
  go_wp2
  go_ret
  exact ⟨rfl, rfl⟩
theorem rnear_any (n : Int) (w : World) : Calls Try.prog 47 #[.int .i64 n] w fun e w' => e = .returned (.int .i64 (nearN n : Nat)) ∧ w = w' := by
  have h := nearN_int n
  generalize nearN n = N at *
  go_enter Try.func47, Try.ntmps47
  go_wp2
  go_ret
  exact ⟨rfl, rfl⟩
theorem isNaN_any (n : Int) (w : World) : Calls Try.prog 79 #[.int .i64 n] w fun e w' => e = .returned (.bool false) ∧ w = w' := by
  go_enter Try.func79, Try.ntmps79
  go_wp2
  go_ret
  exact ⟨rfl, rfl⟩
def cmpN (a b : Nat) : Int := if a < b then -1 else if b < a then 1 else 0
theorem cmpN_cases (a b : Nat) : (a < b ∧ cmpN a b = -1) ∨ (b < a ∧ cmpN a b = 1) ∨ (a = b ∧ cmpN a b = 0) := by
  unfold cmpN
  by_cases h : a < b
  · exact .inl ⟨h, if_pos h⟩
  · by_cases h2 : b < a
    · exact .inr (.inl ⟨h2, by rw [if_neg h, if_pos h2]⟩)
    · exact .inr (.inr ⟨by omega, by rw [if_neg h, if_neg h2]⟩)
theorem compare_any (a b : Nat) (w : World) : Calls Try.prog 51 #[.int .i64 (a : Nat), .int .i64 (b : Nat)] w fun e w' => e = .returned (.int .i64 (cmpN a b)) ∧ w = w' := by
  have HN := Lib.hid (fun n w => isNaN_any n w)
  rcases cmpN_cases a b with ⟨h, e⟩ | ⟨h, e⟩ | ⟨h, e⟩
  · rw [e]
    have hz : (a : Int) < (b : Int) := by omega
    go_enter Try.func51, Try.ntmps51
    go_wp2_with (go_at_call 79; refine (HN.out _ _).mono ?_; rintro e w' ⟨rfl, rfl⟩)
    go_ret
    exact ⟨rfl, rfl⟩
  · rw [e]
    have hz : ¬ (a : Int) < (b : Int) := by omega
    have hz2 : (b : Int) < (a : Int) := by omega
    go_enter Try.func51, Try.ntmps51
    go_wp2_with (go_at_call 79; refine (HN.out _ _).mono ?_; rintro e w' ⟨rfl, rfl⟩)
    go_ret
    exact ⟨rfl, rfl⟩
  · rw [e]
    subst h
    have hz : ¬ (a : Int) < (a : Int) := by omega
    go_enter Try.func51, Try.ntmps51
    go_wp2_with (go_at_call 79; refine (HN.out _ _).mono ?_; rintro e w' ⟨rfl, rfl⟩)
    go_ret
    exact ⟨rfl, rfl⟩
def orN (x y : Int) : Int := if x = 0 then y else x
/-- cmp.Or of two. -/
theorem or_any (b : Nat) (x y : Int) (w : World) (h0 : w.cell? ⟨b, 0, none⟩ = some (.int .i64 x)) (h1 : w.cell? ⟨b, 1, none⟩ = some (.int .i64 y)) :
    Calls Try.prog 50 #[.slice (some ⟨b, 0, none⟩) 2 2] w fun e w' => e = .returned (.int .i64 (orN x y)) ∧ w = w' := by
  have h01 : w.cell? ⟨b, 0 + 1, none⟩ = some (.int .i64 y) := h1
  by_cases hx : x = 0
  · have e : orN x y = y := by unfold orN; rw [if_pos hx]
    rw [e]
    subst hx
    by_cases hy : y = 0
    · subst hy
      go_enter Try.func50, Try.ntmps50
      go_wp2
      refine wp_loop_rounds 3 ?_
      rw [rounds_succ]
      go_wp2
      rw [rounds_succ]
      go_wp2
      rw [rounds_succ]
      go_wp2
      go_ret
      exact ⟨rfl, rfl⟩
    · have t1 : (y != 0) = true := by simpa using hy
      go_enter Try.func50, Try.ntmps50
      go_wp2
      refine wp_loop_rounds 3 ?_
      rw [rounds_succ]
      go_wp2
      rw [rounds_succ]
      go_wp2
      go_ret
      exact ⟨rfl, rfl⟩
  · have e : orN x y = x := by unfold orN; rw [if_neg hx]
    rw [e]
    have t1 : (x != 0) = true := by simpa using hx
    go_enter Try.func50, Try.ntmps50
    go_wp2
    refine wp_loop_rounds 3 ?_
    rw [rounds_succ]
    go_wp2
    go_ret
    exact ⟨rfl, rfl⟩
end Go.Proofs.Ytdehkaknbmbieaa
