/- Package drill and its reference: the numbers: walks. -/
import Derived.Test.YtdehkaknbmbieaaGA
namespace Go.Proofs.Ytdehkaknbmbieaa
set_option linter.unusedVariables false
set_option linter.unusedSimpArgs false
set_option linter.unusedSectionVars false
open Go.RowKit
set_option linter.unusedVariables false
set_option linter.unusedSimpArgs false

def nextN (x : Nat) : Nat := (x * 6364136223846793005 % 18446744073709551616 + 1442695040888963407) % 18446744073709551616
theorem nextN_lt (x : Nat) : nextN x < 18446744073709551616 := Nat.mod_lt _ (by omega)
def toldN (x : Nat) : Nat := nextN x / 8589934592
theorem toldN_lt (x : Nat) : toldN x < 2147483648 := by have := nextN_lt x; unfold toldN; omega
theorem next_mul (x : Nat) : IntKind.u64.wrap ((x : Int) * 6364136223846793005) = ((x * 6364136223846793005 % 18446744073709551616 : Nat) : Int) := by
  simp only [IntKind.wrap, IntKind.bits, IntKind.signed]
  simp
theorem next_add (x : Nat) : IntKind.u64.wrap (((x * 6364136223846793005 % 18446744073709551616 : Nat) : Int) + 1442695040888963407) = (nextN x : Int) := by
  simp only [IntKind.wrap, IntKind.bits, IntKind.signed]
  simp [nextN]
/-- Dice in a block. -/
def DiceB (w : World) (b x : Nat) : Prop := Blk w b [.int .u64 (x : Int)] 111 ∧ x < 18446744073709551616
theorem DiceB.upd {w w' : World} {b x : Nat} {fp : List Nat} (h : DiceB w b x) (hu : Upd fp w w') (hn : b ∉ fp) : DiceB w' b x := ⟨h.1.upd hu hn, h.2⟩
theorem DiceB.lt {w : World} {b x : Nat} (h : DiceB w b x) : b < w.heap.size := h.1.lt
set_option maxRecDepth 100000 in
set_option maxHeartbeats 1600000 in
theorem dnew_any (x : Nat) (w : World) (hx : x < 18446744073709551616) : Calls Try.prog 36 #[.int .u64 (x : Int)] w fun e w' => e = .returned (.pointer (some ⟨w.heap.size, 0, none⟩)) ∧ DiceB w' w.heap.size x ∧ Upd [] w w' := by
  go_enter Try.func36, Try.ntmps36
  go_wp2
  go_ret
  exact ⟨rfl, ⟨Blk.new _ _ _, hx⟩, (Upd.refl _ _).alloc _⟩
def NextP (b x : Nat) (w : World) (e : Ending) (w' : World) : Prop := e = .returned (.int .u64 (toldN x : Nat)) ∧ DiceB w' b (nextN x) ∧ Upd [b] w w'
set_option maxRecDepth 100000 in
set_option maxHeartbeats 1600000 in
theorem dnext_any (b x : Nat) (w : World) (h : DiceB w b x) : Calls Try.prog 40 #[.pointer (some ⟨b, 0, none⟩)] w fun e w' => NextP b x w e w' := by
  have d0 := h.1.cell 0 rfl
  have f0 := h.1.frz 0
  have hm := next_mul x
  have ha := next_add x
  have hlt := nextN_lt x
  have hq : (nextN x : Int) / 8589934592 = (toldN x : Int) := by unfold toldN; omega
  have hq2 : ((nextN x : Int).tdiv 8589934592) = (toldN x : Int) := by unfold toldN; rw [Int.tdiv_eq_ediv_of_nonneg (by omega)]; omega
  have HF : Hid (DiceB (w.setCell ⟨b, 0, none⟩ (.int .u64 (nextN x : Nat))) b (nextN x)) := Lib.hid ⟨h.1.set 0 _, nextN_lt x⟩
  unfold NextP
  generalize toldN x = t at *
  generalize nextN x = y at *
  generalize (x * 6364136223846793005 % 18446744073709551616 : Nat) = z at *
  go_enter Try.func40, Try.ntmps40
  go_wp2
  go_ret
  exact ⟨rfl, HF.out, (Upd.refl _ _).setCell (.inl (by simp)) _⟩
set_option maxRecDepth 100000 in
theorem dnext_nil (w : World) : Calls Try.prog 40 #[.pointer none] w fun e w' => e = .returned (.int .u64 0) ∧ w = w' := by
  go_enter Try.func40, Try.ntmps40
  go_wp2
  go_ret
  exact ⟨rfl, rfl⟩
set_option maxRecDepth 100000 in
set_option maxHeartbeats 1600000 in
theorem rnext_any (x : Nat) (w : World) : Calls Try.prog 39 #[.int .u64 (x : Int)] w fun e w' => e = .returned (.tuple #[.int .u64 (nextN x : Nat), .int .u64 (toldN x : Nat)]) ∧ w = w' := by
  have hm := next_mul x
  have ha := next_add x
  have hlt := nextN_lt x
  have hq2 : ((nextN x : Int).tdiv 8589934592) = (toldN x : Int) := by unfold toldN; rw [Int.tdiv_eq_ediv_of_nonneg (by omega)]; omega
  have hq3 : IntKind.u64.wrap (toldN x : Int) = (toldN x : Int) := by have := toldN_lt x; exact IntWalk.u64_in _ (by omega)
  generalize nextN x = y at *
  generalize (x * 6364136223846793005 % 18446744073709551616 : Nat) = z at *
  go_enter Try.func39, Try.ntmps39
  go_wp2
  go_returns
  exact ⟨rfl, rfl⟩
def belowI (x : Nat) (n : Int) : Nat := if n < 1 then 0 else toldN x % n.toNat
def nextB (x : Nat) (n : Int) : Nat := if n < 1 then x else nextN x
theorem belowI_le (x : Nat) (n : Int) : belowI x n ≤ 2147483647 := by
  unfold belowI
  split
  · omega
  · have := Nat.mod_le (toldN x) n.toNat
    have := toldN_lt x
    omega
theorem belowI_lt (x : Nat) (n : Nat) (h : 1 ≤ n) : belowI x (n : Int) < n := by
  unfold belowI
  rw [if_neg (by omega)]
  exact Nat.mod_lt _ (by omega)
set_option maxRecDepth 100000 in
set_option maxHeartbeats 1600000 in
theorem rbelow_any (x : Nat) (n : Int) (w : World) (h2 : n ≤ 9223372036854775807) : Calls Try.prog 37 #[.int .u64 (x : Int), .int .i64 n] w fun e w' => e = .returned (.tuple #[.int .u64 (nextB x n : Nat), .int .i64 (belowI x n : Nat)]) ∧ Upd [] w w' := by
  by_cases hn : n < 1
  · have e1 : nextB x n = x := by unfold nextB; rw [if_pos hn]
    have e2 : belowI x n = 0 := by unfold belowI; rw [if_pos hn]
    rw [e1, e2]
    clear e1 e2
    go_enter Try.func37, Try.ntmps37
    go_wp2
    go_returns
    exact ⟨rfl, Upd.refl _ _⟩
  · have e1 : nextB x n = nextN x := by unfold nextB; rw [if_neg hn]
    have e2 : belowI x n = toldN x % n.toNat := by unfold belowI; rw [if_neg hn]
    have hb := belowI_le x n
    rw [e2] at hb
    rw [e1, e2]
    have HN := Lib.hid (rnext_any x w)
    obtain ⟨m, rfl⟩ : ∃ m : Nat, n = (m : Int) := ⟨n.toNat, by omega⟩
    rw [show (m : Int).toNat = m by omega] at hb ⊢
    have hw1 : IntKind.u64.wrap (m : Int) = (m : Int) := IntWalk.u64_in _ (by omega)
    have hr : (toldN x : Int).tmod (m : Int) = ((toldN x % m : Nat) : Int) := by rw [Int.tmod_eq_emod_of_nonneg (by omega)]; rfl
    have hr2 : (toldN x : Int) % (m : Int) = ((toldN x % m : Nat) : Int) := rfl
    have hw2 : IntKind.u64.wrap ((toldN x % m : Nat) : Int) = ((toldN x % m : Nat) : Int) := IntWalk.u64_in _ (by omega)
    have hw3 : IntKind.i64.wrap ((toldN x % m : Nat) : Int) = ((toldN x % m : Nat) : Int) := IntWalk.i64_in _ (by omega)
    have hm0 : ¬ (m : Int) = 0 := by omega
    have ht := toldN_lt x
    generalize (toldN x % m : Nat) = r at *
    generalize toldN x = t at *
    generalize nextN x = y at *
    clear e1 e2
    go_enter Try.func37, Try.ntmps37
    go_wp2_with fail
    refine HN.out.mono ?_
    rintro e w1 ⟨rfl, rfl⟩
    go_wp2
    go_quiet (fail)
    go_wp2
    go_returns
    exact ⟨rfl, (Upd.refl _ _).drewN _⟩
def BelowP (b x : Nat) (n : Int) (w : World) (e : Ending) (w' : World) : Prop := e = .returned (.int .i64 (belowI x n : Nat)) ∧ DiceB w' b (nextB x n) ∧ Upd [b] w w'
set_option maxRecDepth 100000 in
set_option maxHeartbeats 1600000 in
theorem dbelow_any (b x : Nat) (n : Int) (w : World) (h : DiceB w b x) (h2 : n ≤ 9223372036854775807) : Calls Try.prog 38 #[.pointer (some ⟨b, 0, none⟩), .int .i64 n] w fun e w' => BelowP b x n w e w' := by
  by_cases hn : n < 1
  · have e1 : nextB x n = x := by unfold nextB; rw [if_pos hn]
    have e2 : belowI x n = 0 := by unfold belowI; rw [if_pos hn]
    have HF : Hid (DiceB w b (nextB x n)) := Lib.hid (by rw [e1]; exact h)
    unfold BelowP
    rw [e2]
    clear e1 e2
    go_enter Try.func38, Try.ntmps38
    go_wp2
    go_ret
    exact ⟨rfl, HF.out, Upd.refl _ _⟩
  · have e1 : nextB x n = nextN x := by unfold nextB; rw [if_neg hn]
    have e2 : belowI x n = toldN x % n.toNat := by unfold belowI; rw [if_neg hn]
    have hb := belowI_le x n
    rw [e2] at hb
    unfold BelowP
    rw [e1, e2]
    have HN : Hid (Calls Try.prog 40 #[.pointer (some ⟨b, 0, none⟩)] w fun e w' => e = .returned (.int .u64 (toldN x : Nat)) ∧ DiceB w' b (nextN x) ∧ Upd [b] w w') := Lib.hid (dnext_any b x w h)
    obtain ⟨m, rfl⟩ : ∃ m : Nat, n = (m : Int) := ⟨n.toNat, by omega⟩
    rw [show (m : Int).toNat = m by omega] at hb ⊢
    have hw1 : IntKind.u64.wrap (m : Int) = (m : Int) := IntWalk.u64_in _ (by omega)
    have hr : (toldN x : Int).tmod (m : Int) = ((toldN x % m : Nat) : Int) := by rw [Int.tmod_eq_emod_of_nonneg (by omega)]; rfl
    have hr2 : (toldN x : Int) % (m : Int) = ((toldN x % m : Nat) : Int) := rfl
    have hw2 : IntKind.u64.wrap ((toldN x % m : Nat) : Int) = ((toldN x % m : Nat) : Int) := IntWalk.u64_in _ (by omega)
    have hw3 : IntKind.i64.wrap ((toldN x % m : Nat) : Int) = ((toldN x % m : Nat) : Int) := IntWalk.i64_in _ (by omega)
    have hm0 : ¬ (m : Int) = 0 := by omega
    have ht := toldN_lt x
    clear e1 e2
    generalize (toldN x % m : Nat) = r at *
    generalize toldN x = t at *
    generalize nextN x = y at *
    go_enter Try.func38, Try.ntmps38
    go_wp2_with fail
    refine HN.out.mono ?_
    rintro e w1 ⟨rfl, hD, hU⟩
    have HD := Lib.hid hD
    have HU := Lib.hid hU
    clear hD hU
    go_wp2
    go_ret
    exact ⟨rfl, HD.out, HU.out⟩
set_option maxRecDepth 100000 in
theorem dbelow_nil (w : World) : Calls Try.prog 38 #[.pointer none, .int .i64 5] w fun e w' => e = .returned (.int .i64 0) ∧ w = w' := by
  go_enter Try.func38, Try.ntmps38
  go_wp2_with fail
  refine (dnext_nil w).mono ?_
  rintro e w1 ⟨rfl, rfl⟩
  go_wp2
  go_ret
  exact ⟨rfl, rfl⟩
end Go.Proofs.Ytdehkaknbmbieaa
