/- Package symbol: plain, and the walks of its scales. -/
import Derived.Test.YtdehkaknbmbieaaGA
import Derived.Test.YtdehkaknbmbieaaBitX
import Derived.Lib.MinMax
namespace Go.Proofs.Ytdehkaknbmbieaa
set_option linter.unusedVariables false
set_option linter.unusedSimpArgs false
set_option linter.unusedSectionVars false
open Go.RowKit
set_option linter.unusedVariables false

/-- How many bits a code of a scale has; -1: it is none. -/
def sbitsI (G F M : Nat) (k : Int) : Int := if k < 0 ∨ (M : Int) ≤ k then -1 else if k < (F : Int) then 0 else (k - F) / G + 1
def sbeg (B G F M : Nat) : Nat → Nat
  | 0 => B
  | k + 1 => sbeg B G F M k + 2 ^ (sbitsI G F M (k : Nat)).toNat
def scaleV (B G F M : Nat) : Value := .agg #[.int .i64 (B : Nat), .int .i64 (G : Nat), .int .i64 (F : Nat), .int .i64 (M : Nat)]

set_option maxHeartbeats 1600000 in
theorem scale_bits (B G F M : Nat) (k : Int) (w : World) (hG : 1 ≤ G) (hG2 : G ≤ 100) (hF : F ≤ 100) (hM : M ≤ 100) :
    Calls Try.prog 85 #[scaleV B G F M, .int .i64 k] w fun e w' => e = .returned (.int .i64 (sbitsI G F M k)) ∧ Upd [] w w' := by
  unfold scaleV
  have hU := (Upd.refl [] w).alloc (.cells #[.int .i64 (B : Nat), .int .i64 (G : Nat), .int .i64 (F : Nat), .int .i64 (M : Nat)] 131)
  by_cases h0 : k < 0
  · have hs := Lib.hid (show sbitsI G F M k = -1 by unfold sbitsI; rw [if_pos (.inl h0)])
    have h0f : decide (k < 0) = true := decide_eq_true h0
    go_enter Try.func85, Try.ntmps85
    go_wp2
    go_returns
    exact ⟨by rw [hs.out]; rfl, hU⟩
  · have h0f : decide (k < 0) = false := decide_eq_false h0
    have h00 : 0 ≤ k := by omega
    by_cases hm : (M : Int) ≤ k
    · have hs := Lib.hid (show sbitsI G F M k = -1 by unfold sbitsI; rw [if_pos (.inr hm)])
      have hmf : decide ((M : Int) ≤ k) = true := decide_eq_true hm
      go_enter Try.func85, Try.ntmps85
      go_wp2
      go_returns
      exact ⟨by rw [hs.out]; rfl, hU⟩
    · have hmf : decide ((M : Int) ≤ k) = false := decide_eq_false hm
      have hkM : k < (M : Int) := by omega
      by_cases hf : k < (F : Int)
      · have hs := Lib.hid (show sbitsI G F M k = 0 by unfold sbitsI; rw [if_neg (by omega), if_pos hf])
        go_enter Try.func85, Try.ntmps85
        go_wp2
        go_returns
        exact ⟨by rw [hs.out]; rfl, hU⟩
      · have hs := Lib.hid (show sbitsI G F M k = (k - F) / G + 1 by unfold sbitsI; rw [if_neg (by omega), if_neg hf])
        have hGz : ¬ (G : Int) = 0 := by omega
        have hkF : (F : Int) ≤ k := by omega
        have hd : (k - (F : Int)).tdiv (G : Int) = (k - F) / G := Int.tdiv_eq_ediv_of_nonneg (by omega)
        have hq1 : 0 ≤ (k - (F : Int)) / G := Int.ediv_nonneg (by omega) (by omega)
        have hq2 : (k - (F : Int)) / G ≤ 100 := Int.le_trans (Int.ediv_le_self _ (by omega)) (by omega)
        clear hf h0 hm
        go_enter Try.func85, Try.ntmps85
        go_wp2
        go_returns
        exact ⟨by rw [hs.out]; rfl, hU⟩
theorem sbitsI_nn (G F M k : Nat) (h : k < M) : 0 ≤ sbitsI G F M (k : Nat) := by
  unfold sbitsI
  rw [if_neg (by omega)]
  split
  · omega
  · have : 0 ≤ ((k : Int) - F) / G := Int.ediv_nonneg (by omega) (by omega)
    omega
theorem sbeg_le (B G F M : Nat) (hb : ∀ j : Nat, j < M → sbitsI G F M (j : Nat) ≤ 13) (k : Nat) (hk : k ≤ M) : sbeg B G F M k ≤ B + k * 8192 := by
  induction k with
  | zero => simp [sbeg]
  | succ k ih =>
    have h1 := hb k (by omega)
    have h2 : 2 ^ (sbitsI G F M (k : Nat)).toNat ≤ 2 ^ 13 := Nat.pow_le_pow_right (by omega) (by omega)
    have := ih (by omega)
    simp only [sbeg]; omega

set_option maxRecDepth 100000 in
set_option maxHeartbeats 1600000 in
theorem scale_begin (B G F M k : Nat) (w : World) (hG : 1 ≤ G) (hG2 : G ≤ 100) (hF : F ≤ 100) (hM : M ≤ 100) (hB : B ≤ 100) (hb : ∀ j : Nat, j < M → sbitsI G F M (j : Nat) ≤ 13) (hk : k ≤ M) :
    Calls Try.prog 114 #[scaleV B G F M, .int .i64 (k : Nat)] w fun e w' => e = .returned (.int .i64 (sbeg B G F M k : Nat)) ∧ Upd [] w w' := by
  have HB := Lib.hid (fun j w' => scale_bits B G F M j w' hG hG2 hF hM)
  have HBD := Lib.hid hb
  unfold scaleV
  have hU := (Upd.refl [] w).alloc (.cells #[.int .i64 (B : Nat), .int .i64 (G : Nat), .int .i64 (F : Nat), .int .i64 (M : Nat)] 131)
  have hP := Blk.new w [.int .i64 (B : Nat), .int .i64 (G : Nat), .int .i64 (F : Nat), .int .i64 (M : Nat)] 131
  unfold scaleV at HB
  clear hb
  go_enter Try.func114, Try.ntmps114
  go_wp2
  go_loopg [5, 10] k (fun g s5 s10 wr => ∃ i, i ≤ k ∧ g = k - i ∧ s10 = .int .i64 (i : Nat) ∧ s5 = .int .i64 (sbeg B G F M i : Nat) ∧ Upd [] w wr ∧ Blk wr w.heap.size [.int .i64 (B : Nat), .int .i64 (G : Nat), .int .i64 (F : Nat), .int .i64 (M : Nat)] 131)
  case atStart => exact ⟨0, by omega, rfl, rfl, rfl, hU, hP⟩
  case round =>
    obtain ⟨i, hi, rfl, rfl, rfl, hUr, hPr⟩ := hrel
    have hle := sbeg_le B G F M HBD.out i (by omega)
    have hle2 : i * 8192 ≤ 100 * 8192 := Nat.mul_le_mul_right _ (by omega)
    clear hU hP
    by_cases hc : i < k
    · have hcz : (i : Int) < (k : Int) := by omega
      have hbi := HB.out (i : Nat)
      have hnn := sbitsI_nn G F M i (by omega)
      have hb13 := HBD.out i (by omega)
      have hst := Lib.hid (show sbeg B G F M (i + 1) = sbeg B G F M i + 2 ^ (sbitsI G F M (i : Nat)).toNat by rfl)
      generalize sbeg B G F M i = q at *
      obtain ⟨t, ht⟩ : ∃ t : Nat, sbitsI G F M (i : Nat) = (t : Int) := ⟨(sbitsI G F M (i : Nat)).toNat, by omega⟩
      rw [ht] at hbi hst hb13 hnn
      rw [Int.toNat_natCast] at hst
      have ht13 : t ≤ 13 := by omega
      have hp : 2 ^ t ≤ 2 ^ 13 := Nat.pow_le_pow_right (by omega) ht13
      have HBI := Lib.hid hbi
      clear hbi ht hb13
      go_wp2_with (refine wpList_loadBlk rfl 131 _ rfl w.heap.size rfl 131 _ hPr _ Try.underlying131 rfl (by kernel_rfl) ?_)
      refine (HBI.out wr).mono ?_
      rintro e w1 ⟨rfl, hU1⟩
      go_wp2
      go_roundg (k - (i + 1))
      case measure => omega
      case rel =>
        refine ⟨i + 1, by omega, rfl, by go_num, ?_, hUr.then hU1, hPr.upd hU1 (by simp)⟩
        have e : (2 : Int) ^ t = ((2 ^ t : Nat) : Int) := by simp
        have e3 : wrap64 ((2 ^ t : Nat) : Int) = ((2 ^ t : Nat) : Int) := by
          clear e
          generalize 2 ^ t = p at *
          exact IntWalk.wrap64_in _ (by omega)
        rw [hst.out, e, e3, ← Int.natCast_add]
        clear e e3
        generalize 2 ^ t = p at *
        rw [IntWalk.wrap64_in _ (by omega)]
    · have hik : i = k := by omega
      have hcz : ¬ (i : Int) < (k : Int) := by omega
      subst hik
      generalize hq : sbeg B G F M i = q at *
      have HQ := Lib.hid hq
      clear hq
      go_wp2
      go_returns
      exact ⟨by rw [HQ.out]; rfl, hUr⟩

/-- The number of a code and of what is in its bits. -/
def numS (B G F M : Nat) (k more : Int) : Option Nat := if sbitsI G F M k = -1 ∨ more < 0 ∨ (2 : Int) ^ (sbitsI G F M k).toNat ≤ more then none else some (sbeg B G F M k.toNat + more.toNat)
def optVal (o : Option Nat) : Value := .tuple #[.int .i64 (o.getD 0 : Nat), .bool o.isSome]

end Go.Proofs.Ytdehkaknbmbieaa
