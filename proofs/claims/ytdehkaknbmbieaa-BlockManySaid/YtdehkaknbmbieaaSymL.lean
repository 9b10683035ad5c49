/- Package symbol: the walks of longs, distances, LongBits, BackBits, LongOf, BackOf. -/
import Derived.Test.YtdehkaknbmbieaaSym
namespace Go.Proofs.Ytdehkaknbmbieaa
set_option linter.unusedVariables false
set_option linter.unusedSimpArgs false
set_option linter.unusedSectionVars false
open Go.RowKit
set_option linter.unusedVariables false

theorem infoScale : (Try.prog.info? 131).map (·.size) = some 4 := by kernel_rfl
theorem longs_any (w : World) : Calls Try.prog 81 #[] w fun e w' => e = .returned (scaleV 3 4 8 28) ∧ Upd [] w w' := by
  have hB := Blk.new w [.int .i64 0, .int .i64 0, .int .i64 0, .int .i64 0] 131
  go_enter Try.func81, Try.ntmps81
  go_wp2_with (refine wpList_storeBlk rfl 131 _ _ rfl w.heap.size rfl [.int .i64 3, .int .i64 4, .int .i64 8, .int .i64 28] rfl 131 _ hB (by kernel_rfl) rfl (by simp [Value.oneCell']) ?_; intro w2 hB3 hU2)
  exact bodyPost_ret (results_cell_row rfl _ _ _ _ _ _ _ rfl hB3 Try.underlying131 rfl (by rw [infoScale]; rfl)) rfl ⟨rfl, ((Upd.refl [] w).alloc _).trans hU2 (fun k hk => by simp at hk; right; omega)⟩
theorem distances_any (w : World) : Calls Try.prog 83 #[] w fun e w' => e = .returned (scaleV 1 2 4 30) ∧ Upd [] w w' := by
  have hB := Blk.new w [.int .i64 0, .int .i64 0, .int .i64 0, .int .i64 0] 131
  go_enter Try.func83, Try.ntmps83
  go_wp2_with (refine wpList_storeBlk rfl 131 _ _ rfl w.heap.size rfl [.int .i64 1, .int .i64 2, .int .i64 4, .int .i64 30] rfl 131 _ hB (by kernel_rfl) rfl (by simp [Value.oneCell']) ?_; intro w2 hB3 hU2)
  exact bodyPost_ret (results_cell_row rfl _ _ _ _ _ _ _ rfl hB3 Try.underlying131 rfl (by rw [infoScale]; rfl)) rfl ⟨rfl, ((Upd.refl [] w).alloc _).trans hU2 (fun k hk => by simp at hk; right; omega)⟩

/-- How many bits a code of a length has; of a distance. -/
def longB (n : Int) : Int := if n = 285 then 0 else if n < 257 then -1 else sbitsI 4 8 28 (n - 257)
def backB (n : Int) : Int := sbitsI 2 4 30 n
theorem longS13 : ∀ j : Nat, j < 28 → sbitsI 4 8 28 (j : Nat) ≤ 13 := by
  have : ∀ j : Fin 28, sbitsI 4 8 28 (j.val : Nat) ≤ 13 := by decide
  exact fun j h => this ⟨j, h⟩
theorem backS13 : ∀ j : Nat, j < 30 → sbitsI 2 4 30 (j : Nat) ≤ 13 := by
  have : ∀ j : Fin 30, sbitsI 2 4 30 (j.val : Nat) ≤ 13 := by decide
  exact fun j h => this ⟨j, h⟩

theorem backBits_any (n : Int) (w : World) : Calls Try.prog 60 #[.int .i64 n] w fun e w' => e = .returned (.int .i64 (backB n)) ∧ Upd [] w w' := by
  go_enter Try.func60, Try.ntmps60
  go_wp2_with fail
  refine (distances_any w).mono ?_
  rintro e w1 ⟨rfl, hU1⟩
  have HB := Lib.hid (scale_bits 1 2 4 30 n w1 (by decide) (by decide) (by decide) (by decide))
  go_wp2_with fail
  refine HB.out.mono ?_
  rintro e w2 ⟨rfl, hU2⟩
  go_wp2
  go_returns
  exact ⟨rfl, hU1.then hU2⟩
theorem longBits_any (n : Nat) (w : World) (h9 : n ≤ 100000) : Calls Try.prog 59 #[.int .i64 (n : Nat)] w fun e w' => e = .returned (.int .i64 (longB n)) ∧ Upd [] w w' := by
  by_cases h1 : n = 285
  · subst h1
    go_enter Try.func59, Try.ntmps59
    go_wp2
    go_returns
    exact ⟨rfl, .refl _ _⟩
  · have h1f : ((n : Int) == 285) = false := by simp; omega
    by_cases h2 : n < 257
    · have h2f : decide ((n : Int) < 257) = true := decide_eq_true (by omega)
      have hl := Lib.hid (show longB (n : Int) = -1 by unfold longB; rw [if_neg (by omega), if_pos (by omega)])
      go_enter Try.func59, Try.ntmps59
      go_wp2
      go_returns
      exact ⟨by rw [hl.out]; rfl, .refl _ _⟩
    · have h2f : decide ((n : Int) < 257) = false := decide_eq_false (by omega)
      have hl := Lib.hid (show longB (n : Int) = sbitsI 4 8 28 ((n : Int) - 257) by unfold longB; rw [if_neg (by omega), if_neg (by omega)])
      go_enter Try.func59, Try.ntmps59
      go_wp2_with fail
      refine (longs_any w).mono ?_
      rintro e w1 ⟨rfl, hU1⟩
      have HB := Lib.hid (scale_bits 3 4 8 28 ((n : Int) - 257) w1 (by decide) (by decide) (by decide) (by decide))
      go_wp2_with fail
      refine HB.out.mono ?_
      rintro e w2 ⟨rfl, hU2⟩
      go_wp2
      go_returns
      exact ⟨by rw [hl.out]; rfl, hU1.then hU2⟩

/-- The length of a code and of what is in its bits. -/
def longN (n more : Int) : Option Nat := if n = 285 then (if more = 0 then some 258 else none) else if n < 257 then none else
  match numS 3 4 8 28 (n - 257) more with
  | some v => if 258 ≤ v then none else some v
  | none => none
end Go.Proofs.Ytdehkaknbmbieaa
