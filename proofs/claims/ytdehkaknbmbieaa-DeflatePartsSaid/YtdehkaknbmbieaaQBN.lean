/- Package lz: Match of no text: its walk. -/
import Derived.Carry
import Derived.Test.YtdehkaknbmbieaaQBH
import Derived.Test.YtdehkaknbmbieaaSiz
import Derived.Test.YtdehkaknbmbieaaQAQ
import Derived.Test.YtdehkaknbmbieaaLaid
import Derived.Deep.QuietTactic
import Derived.BigQuiet
import Derived.Test.YtdehkaknbmbieaaQAP
namespace Go.Proofs.Ytdehkaknbmbieaa
set_option linter.unusedVariables false
set_option linter.unusedSimpArgs false
set_option linter.unusedSectionVars false
open Go.RowKit
attribute [local go_sem] Oper.semAt_some
set_option linter.unusedVariables false
set_option linter.unusedSimpArgs false

set_option maxRecDepth 100000 in
set_option maxHeartbeats 6400000 in
theorem lzmatch0_any (w : World) :
    Calls Try.prog 88 #[.string ⟨#[]⟩, .int .i64 9] w fun e w' => e = .returned (.slice none 0 0) ∧ Upd [] w w' := by
  go_enter Try.func88, Try.ntmps88
  have hm9 : max (0 : Int) 9 = 9 := by decide
  have hmm := @run_makeMap Try.prog
  have HU := Lib.hid ((Upd.refl [] w).alloc (.map #[] 0))
  go_upto_region 5 with fail
  go_wp2
  go_loopg [4, 8] 1 (fun gg s4 s8 wr => gg = 1 ∧ s4 = .slice none 0 0 ∧ s8 = .int .i64 0 ∧ Hid (Upd [] w wr))
  case atStart => exact ⟨rfl, rfl, rfl, Lib.hid ((HU.out.alloc _).alloc _)⟩
  case round =>
    obtain ⟨rfl, rfl, rfl, HW⟩ := hrel
    go_wp2
    go_ret
    exact ⟨rfl, HW.out⟩
end Go.Proofs.Ytdehkaknbmbieaa
namespace Go.Proofs.Ytdehkaknbmbieaa
set_option linter.unusedVariables false
set_option linter.unusedSimpArgs false
set_option linter.unusedSectionVars false
open Go.RowKit
attribute [local go_sem] Oper.semAt_some
set_option linter.unusedVariables false
set_option linter.unusedSimpArgs false

theorem fix256 : (ints (fixP 4)).getD 256 0 = 7 := by decide +kernel
theorem body_nil : bodyI (ints (fixP 4)) (ints (List.replicate 32 5)) (manyF []) = 7 := by
  rw [bodyI_bits _ _ (ints_in15 fix15.1) (ints_in15 fix15.2.1) [] (by simp) (by simp)]
  show (ints (fixP 4)).getD 256 0 = 7
  exact fix256
theorem tokIn_nil (w : World) : TokIn w none 0 [] := ⟨rfl, fun i h => absurd h (by simp)⟩
/-- Numbers without sign that can be read where a slice leads. -/
structure UintsIn (w : World) (a : Option Addr) (len : Nat) (l : List Nat) : Prop where
  len : l.length = len
  cell : ∀ i (h : i < l.length), ∃ b off, a = some ⟨b, off, none⟩ ∧ w.cell? ⟨b, off + i, none⟩ = some (.int .u64 (l[i] : Nat)) ∧ l[i] < 18446744073709551616
theorem UintsIn.pure {w w' : World} {a : Option Addr} {len : Nat} {l : List Nat} (h : UintsIn w a len l) (hU : Upd [] w w') : UintsIn w' a len l :=
  ⟨h.len, fun i hi => by
    obtain ⟨b, off, e, c, r⟩ := h.cell i hi
    exact ⟨b, off, e, (hU.at (World.block_lt_of_cell? w _ c) (by simp) _).trans c, r⟩⟩
end Go.Proofs.Ytdehkaknbmbieaa
namespace Go.Proofs.Ytdehkaknbmbieaa
set_option linter.unusedVariables false
set_option linter.unusedSimpArgs false
set_option linter.unusedSectionVars false
open Go.RowKit
attribute [local go_sem] Oper.semAt_some
set_option linter.unusedVariables false
set_option linter.unusedSimpArgs false

/-- What Best may tell. -/
def BestK (r : List Tok) (k : Nat) : Prop := ∃ (lits backs lens : List Nat) (steps : List StpD) (t : Nat), MadeO r lits backs steps lens ∧ ToldO lens t ∧
  k = bst ((35 + 8 * expLen r : Nat) : Int) (3 + bodyI (ints (fixP 4)) (ints (List.replicate 32 5)) (manyF r)) (((3 + (14 + 3 * t + szT lens steps) : Nat) : Int) + bodyI (ints lits) (ints backs) (manyF r)) 3
theorem best_kind : KindOk 32 BestK := fun r a n c w hI hn hok =>
  (dbest_any r a n c w hI hn hok).mono (by
    rintro e w' ⟨lits, backs, lens, steps, t, hM, hT, rfl, hU⟩
    exact ⟨_, rfl, by have := bst_lt ((35 + 8 * expLen r : Nat) : Int) (3 + bodyI (ints (fixP 4)) (ints (List.replicate 32 5)) (manyF r)) (((3 + (14 + 3 * t + szT lens steps) : Nat) : Int) + bodyI (ints lits) (ints backs) (manyF r)) 3; omega, ⟨lits, backs, lens, steps, t, hM, hT, rfl⟩, hU⟩)
theorem best_enters : ∀ args w, (callFunc 32 args).run Try.prog w = .ok (.enter 32 args) w := enters_of Try.func32 (by kernel_rfl) rfl
theorem best_nil {k : Nat} (h : BestK [] k) : k = 1 := by
  obtain ⟨lits, backs, lens, steps, t, hM, hT, e⟩ := h
  have hml : (manyF []).1.length = 286 ∧ (manyF []).2.length = 30 := by have := many_ok [] ([] : List Tok).length (Nat.le_refl _); rw [List.take_length] at this; exact ⟨this.la, this.lb⟩
  obtain ⟨_, _, _, _, x15, y15, _⟩ := hM.bd hml
  have hb := bodyI_bd lits backs x15 y15 [] (by simp) (by simp)
  rw [body_nil] at e
  have h0 : expLen [] = 0 := rfl
  rw [h0] at e
  have hZ : (17 : Int) ≤ ((3 + (14 + 3 * t + szT lens steps) : Nat) : Int) + bodyI (ints lits) (ints backs) (manyF []) := by omega
  generalize ((3 + (14 + 3 * t + szT lens steps) : Nat) : Int) + bodyI (ints lits) (ints backs) (manyF []) = Z at e hZ
  have hBA : (3 + 7 : Int) < ((35 + 8 * 0 : Nat) : Int) := by omega
  rw [e]
  unfold bst
  rw [if_neg (by omega : ¬ (3 : Nat) ≤ 1), if_neg (by omega : ¬ (3 : Nat) = 2)]
  simp only [if_pos hBA]
  rw [if_neg (by omega)]
set_option maxRecDepth 100000 in
theorem nil_text : strOf (pack (headK [] 1 true ++ symsB (fixP 4) (List.replicate 32 5) [])) = ⟨#[3, 0]⟩ := by decide +kernel
theorem rt_nil {M : List Bool} (h : RT [] [] BestK (rowsN 0) M) : strOf (pack M) = ⟨#[3, 0]⟩ := by
  have e1 : rowsN 0 = 0 + 1 := rfl
  rw [e1] at h
  cases h with
  | succ h hK hk hB =>
    cases h
    have hk1 := best_nil hK
    subst hk1
    rcases hB with ⟨h, _⟩ | ⟨_, e⟩ | ⟨h, _⟩
    · omega
    · rw [e]
      exact nil_text
    · omega
set_option maxRecDepth 100000 in
set_option maxHeartbeats 3200000 in
theorem lives11_any (w : World) : Calls Try.prog 29 #[] w fun e w' => e = .returned (.bool true) ∧ Upd [] w w' := by
  have HO : Hid (∀ w, Calls Try.prog 64 #[.string ⟨#[]⟩, .int .i64 9] w fun e w' => e = .returned (.string ⟨#[3, 0]⟩) ∧ Upd [] w w') := Lib.hid (fun w => by
    go_enter Try.func64, Try.ntmps64
    go_wp2_with fail
    refine (lzmatch0_any _).mono ?_
    rintro e w1 ⟨rfl, hU1⟩
    have HU1 := Lib.hid hU1
    have HL := Lib.hid (laid_any ⟨#[]⟩ [] none 0 0 32 BestK w1 (tokIn_nil w1) (.inl ⟨rfl, rfl, rfl⟩) (by omega) (by omega) rfl (by decide) (by simp) best_kind best_enters)
    clear hU1
    go_wp2_with fail
    refine HL.out.mono ?_
    rintro e w2 ⟨M, hR, rfl, hU2⟩
    have HU2 := Lib.hid (HU1.out.then hU2)
    rw [rt_nil hR]
    clear hR hU2 HL
    go_wp2
    go_ret
    exact ⟨rfl, HU2.out⟩)
  go_enter Try.func29, Try.ntmps29
  go_wp2_with fail
  refine (HO.out _).mono ?_
  rintro e w2 ⟨rfl, hU⟩
  have HU := Lib.hid hU
  clear hU HO
  go_wp2
  go_ret
  exact ⟨rfl, HU.out⟩
end Go.Proofs.Ytdehkaknbmbieaa
namespace Go.Proofs.Ytdehkaknbmbieaa
set_option linter.unusedVariables false
set_option linter.unusedSimpArgs false
set_option linter.unusedSectionVars false
open Go.RowKit
attribute [local go_sem] Oper.semAt_some
set_option linter.unusedVariables false
set_option linter.unusedSimpArgs false

set_option maxRecDepth 100000 in
set_option maxHeartbeats 3200000 in
theorem tsame_any (l : List Tok) (a b : Option Addr) (n c d : Nat) (w : World) (hI : TokIn w a n l) (hJ : TokIn w b n l) (hn : n ≤ 100000) :
    Calls Try.prog 34 #[.slice a n c, .slice b n d] w fun e w' => e = .returned (.bool true) ∧ Upd [] w w' := by
  have HI := Lib.hid hI
  have HJ := Lib.hid hJ
  have HLN := Lib.hid hI.len
  clear hI hJ
  go_enter Try.func34, Try.ntmps34
  go_wp2
  go_loopg [13] 200000 (fun gg s13 wr => ∃ i : Nat, i ≤ n ∧ gg = 200000 - i ∧ s13 = .int .i64 (i : Nat) ∧ Hid (Upd [] w wr))
  case atStart => exact ⟨0, by omega, by omega, rfl, Lib.hid (Upd.refl _ _)⟩
  case round =>
    obtain ⟨i, hin, rfl, rfl, HU⟩ := hrel
    by_cases hc : i < n
    · have hcz : (i : Int) < (n : Int) := by omega
      have hil : i < l.length := by rw [HLN.out]; exact hc
      have hw1 : IntKind.i64.wrap ((i : Int) + 1) = ((i + 1 : Nat) : Int) := by rw [IntWalk.i64_in _ (by omega)]; rfl
      obtain ⟨g1, o1, rfl, ⟨hc1, hc2, hc3⟩, r1, r2, r3⟩ := (HI.out.pure HU.out).cell i hil
      obtain ⟨g2, o2, rfl, ⟨hd1, hd2, hd3⟩, -, -, -⟩ := (HJ.out.pure HU.out).cell i hil
      generalize l[i] = t at *
      obtain ⟨tb, tl, tk⟩ := t
      dsimp only at hc1 hc2 hc3 r1 r2 r3 hd1 hd2 hd3
      clear hil
      go_wp2_with fail
      go_quiet (fail)
      have HU2 := Lib.hid (HU.out.drewN nq)
      generalize wr.drewN nq = w4 at *
      go_wp2
      go_roundg (200000 - (i + 1))
      · exact ⟨i + 1, by omega, by first | rfl | omega, by first | rfl | go_num, HU2⟩
      · omega
    · have hcz : ¬ (i : Int) < (n : Int) := by omega
      obtain rfl : i = n := by omega
      go_wp2
      go_ret
      exact ⟨rfl, HU.out⟩
end Go.Proofs.Ytdehkaknbmbieaa
