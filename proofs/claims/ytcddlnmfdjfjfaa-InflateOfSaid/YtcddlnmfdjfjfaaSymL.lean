/- Package symbol: the walks of longs, distances, LongBits, BackBits, LongOf, BackOf. -/
import Derived.Test.YtcddlnmfdjfjfaaSym
namespace Go.Proofs.Ytcddlnmfdjfjfaa
open Go.RowKit
set_option linter.unusedVariables false

theorem infoScale : (Try.prog.info? 127).map (·.size) = some 4 := by kernel_rfl
theorem longs_any (w : World) : Calls Try.prog 90 #[] w fun e w' => e = .returned (scaleV 3 4 8 28) ∧ Upd [] w w' := by
  have hB := Blk.new w [.int .i64 0, .int .i64 0, .int .i64 0, .int .i64 0] 127
  go_enter Try.func90, Try.ntmps90
  go_wp2_with (refine wpList_storeBlk rfl 127 _ _ rfl w.heap.size rfl [.int .i64 3, .int .i64 4, .int .i64 8, .int .i64 28] rfl 127 _ hB (by kernel_rfl) rfl (by simp [Value.oneCell']) ?_; intro w2 hB3 hU2)
  exact bodyPost_ret (results_cell_row rfl _ _ _ _ _ _ _ rfl hB3 Try.underlying127 rfl (by rw [infoScale]; rfl)) rfl ⟨rfl, ((Upd.refl [] w).alloc _).trans hU2 (fun k hk => by simp at hk; right; omega)⟩
theorem distances_any (w : World) : Calls Try.prog 93 #[] w fun e w' => e = .returned (scaleV 1 2 4 30) ∧ Upd [] w w' := by
  have hB := Blk.new w [.int .i64 0, .int .i64 0, .int .i64 0, .int .i64 0] 127
  go_enter Try.func93, Try.ntmps93
  go_wp2_with (refine wpList_storeBlk rfl 127 _ _ rfl w.heap.size rfl [.int .i64 1, .int .i64 2, .int .i64 4, .int .i64 30] rfl 127 _ hB (by kernel_rfl) rfl (by simp [Value.oneCell']) ?_; intro w2 hB3 hU2)
  exact bodyPost_ret (results_cell_row rfl _ _ _ _ _ _ _ rfl hB3 Try.underlying127 rfl (by rw [infoScale]; rfl)) rfl ⟨rfl, ((Upd.refl [] w).alloc _).trans hU2 (fun k hk => by simp at hk; right; omega)⟩

/-- How many bits a code of a length has; of a distance. -/
def longB (n : Int) : Int := if n = 285 then 0 else if n < 257 then -1 else sbitsI 4 8 28 (n - 257)
def backB (n : Int) : Int := sbitsI 2 4 30 n
theorem longS13 : ∀ j : Nat, j < 28 → sbitsI 4 8 28 (j : Nat) ≤ 13 := by
  have : ∀ j : Fin 28, sbitsI 4 8 28 (j.val : Nat) ≤ 13 := by decide
  exact fun j h => this ⟨j, h⟩
theorem backS13 : ∀ j : Nat, j < 30 → sbitsI 2 4 30 (j : Nat) ≤ 13 := by
  have : ∀ j : Fin 30, sbitsI 2 4 30 (j.val : Nat) ≤ 13 := by decide
  exact fun j h => this ⟨j, h⟩

theorem backBits_any (n : Int) (w : World) : Calls Try.prog 86 #[.int .i64 n] w fun e w' => e = .returned (.int .i64 (backB n)) ∧ Upd [] w w' := by
  go_enter Try.func86, Try.ntmps86
  go_wp2_with fail
  refine (distances_any w).mono ?_
  rintro e w1 ⟨rfl, hU1⟩
  have HB := Lib.hid (scale_bits 1 2 4 30 n w1 (by decide) (by decide) (by decide) (by decide))
  go_wp2_with fail
  refine HB.out.mono ?_
  rintro e w2 ⟨rfl, hU2⟩
  go_wp2
  go_returns
  exact ⟨rfl, hU1.then hU2⟩
theorem backOf_any (n more : Int) (w : World) : Calls Try.prog 87 #[.int .i64 n, .int .i64 more] w fun e w' => e = .returned (optVal (numS 1 2 4 30 n more)) ∧ Upd [] w w' := by
  have hn := fun w1 => scale_number 1 2 4 30 n more w1 (by decide) (by decide) (by decide) (by decide) (by decide) backS13
  unfold optVal at hn ⊢
  generalize numS 1 2 4 30 n more = o at *
  have HN := Lib.hid hn
  clear hn
  go_enter Try.func87, Try.ntmps87
  go_wp2_with fail
  refine (distances_any w).mono ?_
  rintro e w1 ⟨rfl, hU1⟩
  go_wp2_with fail
  refine (HN.out w1).mono ?_
  rintro e w2 ⟨rfl, hU2⟩
  go_wp2
  go_returns
  exact ⟨rfl, hU1.then hU2⟩
theorem longBits_any (n : Nat) (w : World) (h9 : n ≤ 100000) : Calls Try.prog 84 #[.int .i64 (n : Nat)] w fun e w' => e = .returned (.int .i64 (longB n)) ∧ Upd [] w w' := by
  by_cases h1 : n = 285
  · subst h1
    go_enter Try.func84, Try.ntmps84
    go_wp2
    go_returns
    exact ⟨rfl, .refl _ _⟩
  · have h1f : ((n : Int) == 285) = false := by simp; omega
    by_cases h2 : n < 257
    · have h2f : decide ((n : Int) < 257) = true := decide_eq_true (by omega)
      have hl := Lib.hid (show longB (n : Int) = -1 by unfold longB; rw [if_neg (by omega), if_pos (by omega)])
      go_enter Try.func84, Try.ntmps84
      go_wp2
      go_returns
      exact ⟨by rw [hl.out]; rfl, .refl _ _⟩
    · have h2f : decide ((n : Int) < 257) = false := decide_eq_false (by omega)
      have hl := Lib.hid (show longB (n : Int) = sbitsI 4 8 28 ((n : Int) - 257) by unfold longB; rw [if_neg (by omega), if_neg (by omega)])
      go_enter Try.func84, Try.ntmps84
      go_wp2_with fail
      refine (longs_any w).mono ?_
      rintro e w1 ⟨rfl, hU1⟩
      have HB := Lib.hid (scale_bits 3 4 8 28 ((n : Int) - 257) w1 (by decide) (by decide) (by decide) (by decide))
      go_wp2_with fail
      refine HB.out.mono ?_
      rintro e w2 ⟨rfl, hU2⟩
      go_wp2
      go_returns
      exact ⟨by rw [hl.out]; rfl, hU1.then hU2⟩

/-- The length of a code and of what is in its bits. -/
def longN (n more : Int) : Option Nat := if n = 285 then (if more = 0 then some 258 else none) else if n < 257 then none else
  match numS 3 4 8 28 (n - 257) more with
  | some v => if 258 ≤ v then none else some v
  | none => none
set_option maxRecDepth 100000 in
theorem longOf_any (n : Nat) (more : Int) (w : World) (h9 : n ≤ 100000) : Calls Try.prog 85 #[.int .i64 (n : Nat), .int .i64 more] w fun e w' => e = .returned (optVal (longN n more)) ∧ Upd [] w w' := by
  by_cases h1 : n = 285
  · subst h1
    by_cases hm : more = 0
    · subst hm
      go_enter Try.func85, Try.ntmps85
      go_wp2
      go_returns
      exact ⟨rfl, .refl _ _⟩
    · have hmf : (more == 0) = false := by simpa using hm
      have hl := Lib.hid (show longN 285 more = none by unfold longN; rw [if_pos rfl, if_neg hm])
      go_enter Try.func85, Try.ntmps85
      go_wp2
      go_returns
      exact ⟨by rw [show ((285 : Nat) : Int) = 285 by rfl, hl.out]; rfl, .refl _ _⟩
  · have h1f : ((n : Int) == 285) = false := by simp; omega
    by_cases h2 : n < 257
    · have h2f : decide ((n : Int) < 257) = true := decide_eq_true (by omega)
      have hl := Lib.hid (show longN (n : Int) more = none by unfold longN; rw [if_neg (by omega), if_pos (by omega)])
      go_enter Try.func85, Try.ntmps85
      go_wp2
      go_returns
      exact ⟨by rw [hl.out]; rfl, .refl _ _⟩
    · have h2f : decide ((n : Int) < 257) = false := decide_eq_false (by omega)
      have hl : longN (n : Int) more = match numS 3 4 8 28 ((n : Int) - 257) more with
        | some v => if 258 ≤ v then none else some v
        | none => none := by unfold longN; rw [if_neg (by omega), if_neg (by omega)]
      have hn := fun w1 => scale_number 3 4 8 28 ((n : Int) - 257) more w1 (by decide) (by decide) (by decide) (by decide) (by decide) longS13
      cases ho : numS 3 4 8 28 ((n : Int) - 257) more with
      | none =>
        rw [ho] at hl hn
        have HL := Lib.hid hl
        have HN := Lib.hid (show ∀ w1, Calls Try.prog 92 #[scaleV 3 4 8 28, .int .i64 ((n : Int) - 257), .int .i64 more] w1 fun e w' => e = .returned (.tuple #[.int .i64 0, .bool false]) ∧ Upd [] w1 w' from hn)
        clear hl hn ho
        go_enter Try.func85, Try.ntmps85
        go_wp2_with fail
        refine (longs_any w).mono ?_
        rintro e w1 ⟨rfl, hU1⟩
        go_wp2_with fail
        refine (HN.out w1).mono ?_
        rintro e w2 ⟨rfl, hU2⟩
        go_wp2
        go_returns
        exact ⟨by rw [HL.out]; rfl, hU1.then hU2⟩
      | some v =>
        rw [ho] at hl hn
        have HN := Lib.hid (show ∀ w1, Calls Try.prog 92 #[scaleV 3 4 8 28, .int .i64 ((n : Int) - 257), .int .i64 more] w1 fun e w' => e = .returned (.tuple #[.int .i64 (v : Nat), .bool true]) ∧ Upd [] w1 w' from hn)
        clear hn ho
        by_cases hv : 258 ≤ v
        · have hvf : decide ((258 : Int) ≤ (v : Int)) = true := decide_eq_true (by omega)
          have HL := Lib.hid (hl.trans (if_pos hv))
          clear hl
          go_enter Try.func85, Try.ntmps85
          go_wp2_with fail
          refine (longs_any w).mono ?_
          rintro e w1 ⟨rfl, hU1⟩
          go_wp2_with fail
          refine (HN.out w1).mono ?_
          rintro e w2 ⟨rfl, hU2⟩
          go_wp2
          go_returns
          exact ⟨by rw [HL.out]; rfl, hU1.then hU2⟩
        · have hvf : decide ((258 : Int) ≤ (v : Int)) = false := decide_eq_false (by omega)
          have HL := Lib.hid (hl.trans (if_neg hv))
          clear hl
          go_enter Try.func85, Try.ntmps85
          go_wp2_with fail
          refine (longs_any w).mono ?_
          rintro e w1 ⟨rfl, hU1⟩
          go_wp2_with fail
          refine (HN.out w1).mono ?_
          rintro e w2 ⟨rfl, hU2⟩
          go_wp2
          go_returns
          exact ⟨by rw [HL.out]; rfl, hU1.then hU2⟩
end Go.Proofs.Ytcddlnmfdjfjfaa
