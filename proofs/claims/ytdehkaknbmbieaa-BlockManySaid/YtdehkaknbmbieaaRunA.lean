/- Package runs: Bits, least, step: walks. -/
import Derived.Test.YtdehkaknbmbieaaSame
import Derived.Lib.MinMax
namespace Go.Proofs.Ytdehkaknbmbieaa
set_option linter.unusedVariables false
set_option linter.unusedSimpArgs false
set_option linter.unusedSectionVars false
open Go.RowKit
set_option linter.unusedVariables false
set_option linter.unusedSimpArgs false

def runB (s : Int) : Int := if s < 0 ∨ 18 < s then -1 else if s ≤ 15 then 0 else if s = 16 then 2 else if s = 17 then 3 else 7
theorem runBits_any (s : Int) (w : World) : Calls Try.prog 136 #[.int .i64 s] w fun e w' => e = .returned (.int .i64 (runB s)) ∧ w = w' := by
  go_enter Try.func136, Try.ntmps136
  go_wp2
  all_goals go_returns
  all_goals (refine ⟨congrArg (fun z => Ending.returned (.int .i64 z)) ?_, rfl⟩)
  all_goals (unfold runB; (repeat' split) <;> first | rfl | (exfalso; omega) | (exfalso; simp_all; done) | (exfalso; simp_all; omega))
def runL (s : Int) : Int := if s = 18 then 11 else 3
theorem runLeast_any (s : Int) (w : World) : Calls Try.prog 116 #[.int .i64 s] w fun e w' => e = .returned (.int .i64 (runL s)) ∧ w = w' := by
  go_enter Try.func116, Try.ntmps116
  go_wp2
  all_goals go_returns
  all_goals (refine ⟨congrArg (fun z => Ending.returned (.int .i64 z)) ?_, rfl⟩)
  all_goals (unfold runL; (repeat' split) <;> first | rfl | (exfalso; omega) | (exfalso; simp_all; done) | (exfalso; simp_all; omega))
theorem infoStep : (Try.prog.info? 55).map (·.size) = some 3 := by kernel_rfl
theorem results_rowT2 {P : Program} {fn : Func} {p u : Tmp} {ty : TypeId} (h : fn.results = #[.cell p ty, .tmp u]) (tmps : Array Value) (w : World) (g : Nat) (t : TypeId) (cs : Array Value) (fr : Nat × Nat) (d : TypeDesc) (v : Value)
    (hp : tmps.getD p undef = .pointer (some ⟨g, 0, none⟩)) (hv : tmps.getD u undef = v) (hg : w.heap[g]? = some (.cells cs t fr))
    (hu : P.underlying ty = some d) (hd : (match d with | .struct _ | .array _ _ => true | _ => false) = true) (hi : (P.info? ty).map (·.size) = some cs.size) :
    (results fn tmps).run P w = .ok (.tuple #[.agg cs, v]) w := by
  rw [results_cell_tmp h, hp, hv]
  simp [asAddr, run_loadVar_row w g t ty cs fr d hg hu hd hi, Result.andThen]
/-- How many a run has at most, and at least. -/
def runM (s : Nat) : Nat := if s = 16 then 6 else if s = 17 then 10 else 138
def runL' (s : Nat) : Nat := if s = 18 then 11 else 3
def runBn (s : Nat) : Nat := if s = 16 then 2 else if s = 17 then 3 else 7
def StepP (s n : Nat) (w : World) (e : Ending) (w' : World) : Prop := e = .returned (.tuple #[.agg #[.int .i64 (s : Nat), .int .i64 (runBn s : Nat), .int .i64 ((min n (runM s) - runL' s : Nat) : Int)], .int .i64 ((min n (runM s) : Nat) : Int)]) ∧ Upd [] w w'
set_option maxRecDepth 100000 in
set_option maxHeartbeats 3200000 in
theorem runStep_any (s n : Nat) (w : World) (hs : s = 16 ∨ s = 17 ∨ s = 18) (hn : runL' s ≤ n) (hn2 : n ≤ 1000000) :
    Calls Try.prog 117 #[.int .i64 (s : Nat), .int .i64 (n : Nat)] w fun e w' => StepP s n w e w' := by
  obtain ⟨M, hM⟩ : ∃ M, runM s = M := ⟨_, rfl⟩
  obtain ⟨L, hL⟩ : ∃ L, runL' s = L := ⟨_, rfl⟩
  obtain ⟨b, hb⟩ : ∃ b, runBn s = b := ⟨_, rfl⟩
  have hB : runB (s : Nat) = (b : Int) := by rw [← hb]; rcases hs with rfl | rfl | rfl <;> decide
  have hLI : runL (s : Nat) = (L : Int) := by rw [← hL]; rcases hs with rfl | rfl | rfl <;> decide
  obtain ⟨P, hP⟩ : ∃ P : Nat, 2 ^ b = P := ⟨_, rfl⟩
  have hPM : L + P - 1 = M ∧ 3 ≤ L ∧ L ≤ 11 ∧ 4 ≤ P ∧ P ≤ 128 ∧ b ≤ 7 := by
    rw [← hM, ← hL, ← hP, ← hb]
    rcases hs with rfl | rfl | rfl <;> decide
  have HBI := Lib.hid (fun w' => show Calls Try.prog 136 #[.int .i64 (s : Nat)] w' fun e w2 => e = .returned (.int .i64 (b : Int)) ∧ w' = w2 by rw [← hB]; exact runBits_any _ w')
  have HLE := Lib.hid (fun w' => show Calls Try.prog 116 #[.int .i64 (s : Nat)] w' fun e w2 => e = .returned (.int .i64 (L : Int)) ∧ w' = w2 by rw [← hLI]; exact runLeast_any _ w')
  have hpw : wrap64 ((2 : Int) ^ b) = (P : Int) := by
    have : ((2 : Int) ^ b) = (P : Int) := by rw [← hP]; simp
    rw [this]
    unfold wrap64
    omega
  have HPW := Lib.hid hpw
  unfold StepP
  rw [hM, hL, hb]
  rw [hL] at hn
  clear hpw hB hLI hM hL hb hP
  obtain ⟨q, hq⟩ : ∃ q : Nat, min n M = q := ⟨_, rfl⟩
  have hqi : min (n : Int) (M : Int) = (q : Int) := by omega
  have hLq : L ≤ q := by omega
  rw [hq]
  have hw1 : IntKind.i64.wrap ((L : Int) + (P : Int)) = (L : Int) + (P : Int) := IntWalk.i64_in _ (by omega)
  have hw2 : IntKind.i64.wrap ((L : Int) + (P : Int) - 1) = (M : Int) := by rw [IntWalk.i64_in _ (by omega)]; omega
  have hw3 : IntKind.i64.wrap ((q : Int) - (L : Int)) = ((q - L : Nat) : Int) := by rw [IntWalk.i64_in _ (by omega)]; omega
  have hb64 : (b : Int) < 64 := by omega
  have HQ := Lib.hid hq
  clear hq hPM
  have hpw := HPW.out
  go_enter Try.func117, Try.ntmps117
  go_wp2_with fail
  refine (HBI.out _).mono ?_
  rintro e w1 ⟨rfl, rfl⟩
  go_wp2
  go_quiet ((go_at_call 116; exact Calls.quiet_of_same ((HLE.out _).mono fun e w' ⟨he, hw⟩ => ⟨he, hw.symm⟩)))
  go_wp2_with fail
  refine (HLE.out _).mono ?_
  rintro e w2 ⟨rfl, rfl⟩
  have hB := (Blk.new w [.int .i64 0, .int .i64 0, .int .i64 0] 55).drewN nq
  have hU := ((Upd.refl [] w).alloc (.cells #[.int .i64 0, .int .i64 0, .int .i64 0] 55)).drewN nq
  have f0 := hB.frz 0
  have f1 := hB.frz 1
  have f2 := hB.frz 2
  have c0 := hB.cell 0 rfl
  have c1 := hB.cell 1 rfl
  have c2 := hB.cell 2 rfl
  have HB := Lib.hid hB
  have HU := Lib.hid hU
  clear hB hU hpw
  go_wp2
  have hB9 := ((HB.out.set 0 (.int .i64 (s : Nat))).set 1 (.int .i64 (b : Nat))).set 2 (.int .i64 ((q - L : Nat) : Int))
  refine bodyPost_ret (results_rowT2 rfl _ _ w.heap.size _ _ _ _ (.int .i64 (q : Nat)) (by simp [Act.put]) (by simp [Act.put]) hB9 Try.underlying55 rfl (by rw [infoStep]; rfl)) (by simp [Act.put]) ⟨?_, ?_⟩
  · rfl
  · exact ((HU.out.setCell (.inr (Nat.le_refl _)) _).setCell (.inr (Nat.le_refl _)) _).setCell (.inr (Nat.le_refl _)) _
end Go.Proofs.Ytdehkaknbmbieaa
