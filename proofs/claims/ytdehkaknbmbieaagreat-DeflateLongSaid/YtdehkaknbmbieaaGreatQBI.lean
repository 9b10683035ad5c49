/- Package deflate: the iterator over rows of tokens: its contract. -/
import Derived.Deep.QuietTactic
import Derived.BigQuiet
import Derived.Sort.QuietIn
import Derived.Stop.RegionWithIn
import Derived.OwnWalkIn
import Derived.TacticsInMore
import Derived.LoopNIn
import Derived.LoopIn
import Derived.Sort.LoopGhostIn
import Derived.Test.YtdehkaknbmbieaaGreatQAL
import Derived.Test.YtdehkaknbmbieaaGreatQAN
import Derived.Test.YtdehkaknbmbieaaGreatQAO
import Derived.Test.YtdehkaknbmbieaaGreatSiz
import Derived.Test.YtdehkaknbmbieaaGreatQBH
import Derived.Test.YtdehkaknbmbieaaGreatQAP
namespace Go.Proofs.YtdehkaknbmbieaaGreat
set_option linter.unusedVariables false
set_option linter.unusedSimpArgs false
set_option linter.unusedSectionVars false
open Go.RowKit
attribute [local go_sem] Oper.semAt_some
set_option linter.unusedVariables false
set_option linter.unusedSimpArgs false

theorem each_any (a : Option Addr) (n c : Nat) (w : World) : Calls Tryz.prog 73 #[.slice a n c] w fun e w' =>
    e = .returned (.func (.func 101) #[] #[.pointer (some ⟨w.heap.size, 0, none⟩)]) ∧ w' = w.alloc (.cells #[.slice a n c] 22) := by
  go_enter Tryz.func73, Tryz.ntmps73
  go_wp2
  go_ret
  exact ⟨rfl, rfl⟩
/-- How many rows. -/
def rowsN (n : Nat) : Nat := if n = 0 then 1 else (n + 7999) / 8000
/-- A row of n tokens, and whether it is the last. -/
def rowV (g o n cap q : Nat) : Array Value := #[.slice (some ⟨g, o + 24000 * q, none⟩) (min (n - 8000 * q) 8000) (cap - 8000 * q), .bool (decide (q + 1 = rowsN n))]
theorem range_snoc (q : Nat) : List.range (q + 1) = List.range q ++ [q] := List.range_succ
theorem range_pre {a b : Nat} (h : a ≤ b) : List.range a <+: List.range b := by
  induction h with
  | refl => exact List.prefix_refl _
  | step _ ih => exact ih.trans ⟨_, (range_snoc _).symm⟩
set_option maxRecDepth 100000 in
set_option maxHeartbeats 2000000 in
theorem each_seqN1 (Bs g o n cap : Nat) (w : World) (hB : Blk w Bs [.slice (some ⟨g, o, none⟩) n cap] 22) (hn : n ≤ 1000000) (hc : n ≤ cap) (hcm : cap ≤ 9223372036854775807) :
    SeqN Tryz.prog 101 #[.pointer (some ⟨Bs, 0, none⟩)] (fun q : Nat => rowV g o n cap q) [Bs] [Bs] (fun xs => xs = List.range (rowsN n)) (fun pre => pre <+: List.range (rowsN n)) (fun pre q => pre = List.range q ∧ q < rowsN n) w := by
  intro l J Jx W hU hz hJ hJx hY h0
  have b1 : Blk W Bs [.slice (some ⟨g, o, none⟩) n cap] 22 := hB.upd hU (by simp)
  have HJ := Lib.hid hJ
  have HY := Lib.hid hY
  have HJ0 := Lib.hid h0
  clear hJ hY h0 hJx hU hz hB
  have HB := Lib.hid b1
  clear b1
  refine callsIn_of_wp Tryz.func101 rfl trivial ?_ rfl
  simp only [Tryz.ntmps101, List.size_toArray, List.length_cons, List.length_nil, Nat.reduceAdd, Nat.reduceSub, Array.replicate_succ, Array.replicate_zero, List.push_toArray, List.append_toArray, List.nil_append, List.cons_append]
  obtain ⟨R, hR⟩ : ∃ R, rowsN n = R := ⟨_, rfl⟩
  have HR := Lib.hid hR
  rw [hR] at HY ⊢
  have hRp : 0 < R := by rw [← hR]; unfold rowsN; split <;> omega
  clear hR
  gi_wp2
  gi_loopg [] R (fun gg wr => ∃ q : Nat, q < R ∧ gg = R - q ∧ Hid (8000 * q ≤ n) ∧ Hid (J (List.range q) wr) ∧ Hid (Blk wr Bs [.slice (some ⟨g, o + 24000 * q, none⟩) (n - 8000 * q) (cap - 8000 * q)] 22))
  case atStart => exact ⟨0, hRp, rfl, Lib.hid (by omega), HJ0, HB⟩
  case round =>
    obtain ⟨q, hq, rfl, HQ, HJq, HBq⟩ := hrel
    clear HB HJ0
    have c1 := HBq.out.cell 0 rfl
    have HRV : Hid (rowV g o n cap q = #[.slice (some ⟨g, o + 24000 * q, none⟩) (min (n - 8000 * q) 8000) (cap - 8000 * q), .bool (decide (q + 1 = R))]) := Lib.hid (by unfold rowV; rw [HR.out])
    have HQ2 : Hid (8000 * q ≤ n ∧ n ≤ cap ∧ (q + 1 = R ↔ n - 8000 * q ≤ 8000) ∧ cap ≤ 9223372036854775807) := Lib.hid ⟨HQ.out, hc, by have h1 := HR.out; have := HQ.out; unfold rowsN at h1; split at h1 <;> omega, hcm⟩
    have HN1 : Hid ((o + 24000 * q) + 24000 = o + 24000 * (q + 1) ∧ n - 8000 * q - 8000 = n - 8000 * (q + 1) ∧ cap - 8000 * q - 8000 = cap - 8000 * (q + 1)) := Lib.hid (by omega)
    obtain ⟨fn, tmps, assign, body, hy, hRd⟩ := HY.out (List.range q) q wr HJq.out ⟨rfl, hq⟩ (by intro k hk; simp at hk; subst hk; exact HBq.out.lt)
    have hmc : n - 8000 * q ≤ cap - 8000 * q := by omega
    have hm1 := HQ2.out.2.2.1
    have hc1 : cap - 8000 * q ≤ 9223372036854775807 := by omega
    have HQN : Hid (q + 1 ≠ R → 8000 * (q + 1) ≤ n) := Lib.hid (fun h => by have := HQ2.out; omega)
    clear HQ2 HQ
    rw [HRV.out] at hy
    generalize n - 8000 * q = m at *
    generalize cap - 8000 * q = C at *
    generalize o + 24000 * q = D at *
    by_cases hl : q + 1 = R
    · have hm8 := hm1.1 hl
      have hmn : min (m : Int) 8000 = (m : Int) := by omega
      rw [decide_eq_true hl, Nat.min_eq_left hm8] at hy
      have hmC : (m : Int) ≤ (C : Int) := by omega
      have hm0 : (0 : Int) ≤ (m : Int) := by omega
      have HL := Lib.hid hl
      clear hm1 hl
      gi_wp2
      refine hRd.mono ?_
      rintro e W3 (⟨rfl, hJ3, hk3⟩ | ⟨rfl, hJx3⟩)
      · have HJ3 := Lib.hid hJ3
        clear hk3 hJ3 hRd
        gi_wp2
        refine bodyPost_ret (results_none rfl _ _ _) rfl ?_
        exact ⟨⟨_, rfl⟩, .inl ⟨_, by rw [← HL.out, range_snoc], HJ3.out⟩⟩
      · have HJx3 := Lib.hid hJx3
        clear hJx3 hRd
        gi_wp2
        refine bodyPost_ret (results_none rfl _ _ _) rfl ?_
        exact ⟨⟨_, rfl⟩, .inr ⟨_, by rw [← HL.out, range_snoc]; exact List.prefix_refl _, HJx3.out⟩⟩
    · have hm8 : ¬ m ≤ 8000 := fun h => hl (hm1.2 h)
      have hmn : min (m : Int) 8000 = 8000 := by omega
      have hne : ¬ (8000 : Int) = (m : Int) := by omega
      rw [decide_eq_false hl, Nat.min_eq_right (by omega)] at hy
      have hmC : (8000 : Int) ≤ (C : Int) := by omega
      have hbe : ((8000 : Int) == (m : Int)) = false := by simp; omega
      have HL := Lib.hid hl
      have HQL : Hid (q + 1 < R) := Lib.hid (by omega)
      clear hm1 hl
      gi_wp2
      refine hRd.mono ?_
      rintro e W3 (⟨rfl, hJ3, hk3⟩ | ⟨rfl, hJx3⟩)
      · have HJ3 := Lib.hid hJ3
        have HB5 : Hid (Blk W3 Bs [.slice (some ⟨g, D, none⟩) m C] 22) := Lib.hid ((hk3.2 Bs (by simp)).trans HBq.out)
        have c5 := HB5.out.cell 0 rfl
        have f5 := HB5.out.frz 0
        clear hk3 hJ3 hRd c1
        gi_wp2
        have hB6 := HB5.out.set 0 (.slice (some ⟨g, D + 24000, none⟩) (m - 8000) (C - 8000))
        simp only [List.set_cons_zero] at hB6
        have hO6 : Own2 [Bs] W3 (W3.setCell ⟨Bs, 0, none⟩ (.slice (some ⟨g, D + 24000, none⟩) (m - 8000) (C - 8000))) :=
          own2_of (fq := [Bs]) ((Upd.refl [Bs] W3).setCell (p := ⟨Bs, 0, none⟩) (.inl (by simp)) _) (fun k hk => hk) (fun k hk => by simp at hk; subst hk; exact HB5.out.cellsOnly)
        have hJ6 := HJ.out (List.range (q + 1)) W3 _ (by rw [range_snoc]; exact HJ3.out) hO6
        rw [HN1.out.1, HN1.out.2.1, HN1.out.2.2] at hB6 hJ6 ⊢
        have HB6 := Lib.hid hB6
        have HJ6 := Lib.hid hJ6
        clear hB6 hJ6 hO6
        gi_roundg (R - (q + 1))
        all_goals first
          | (have := HQL.out; omega)
          | exact ⟨q + 1, HQL.out, rfl, Lib.hid (HQN.out HL.out), HJ6, HB6⟩
      · have HJx3 := Lib.hid hJx3
        clear hJx3 hRd
        gi_wp2
        refine bodyPost_ret (results_none rfl _ _ _) rfl ?_
        exact ⟨⟨_, rfl⟩, .inr ⟨_, by rw [← range_snoc]; exact range_pre (Nat.le_of_lt HQL.out), HJx3.out⟩⟩
/-- A row of tokens, and whether it is the last: also of no slice. -/
def rowA (a : Option Addr) (n cap q : Nat) : Array Value := #[.slice (a.map fun p => p.add (24000 * q)) (min (n - 8000 * q) 8000) (cap - 8000 * q), .bool (decide (q + 1 = rowsN n))]
theorem rowA_none : rowA none 0 0 0 = #[.slice none 0 0, .bool true] := by unfold rowA rowsN; simp
theorem rowA_some (g o n cap q : Nat) : rowA (some ⟨g, o, none⟩) n cap q = rowV g o n cap q := by unfold rowA rowV; simp only [Option.map_some]; first | rfl | rw [add_flat]
set_option maxRecDepth 100000 in
set_option maxHeartbeats 2000000 in
theorem each_seqN0 (Bs : Nat) (w : World) (hB : Blk w Bs [.slice none 0 0] 22) :
    SeqN Tryz.prog 101 #[.pointer (some ⟨Bs, 0, none⟩)] (fun q : Nat => rowA none 0 0 q) [Bs] [Bs] (fun xs => xs = List.range (1)) (fun pre => pre <+: List.range (1)) (fun pre q => pre = List.range q ∧ q < 1) w := by
  intro l J Jx W hU hz hJ hJx hY h0
  have b1 : Blk W Bs [.slice none 0 0] 22 := hB.upd hU (by simp)
  have HJ := Lib.hid hJ
  have HY := Lib.hid hY
  have HJ0 := Lib.hid h0
  clear hJ hY h0 hJx hU hz hB
  have HB := Lib.hid b1
  clear b1
  refine callsIn_of_wp Tryz.func101 rfl trivial ?_ rfl
  simp only [Tryz.ntmps101, List.size_toArray, List.length_cons, List.length_nil, Nat.reduceAdd, Nat.reduceSub, Array.replicate_succ, Array.replicate_zero, List.push_toArray, List.append_toArray, List.nil_append, List.cons_append]
  gi_wp2
  gi_loopg [] 1 (fun gg wr => gg = 1 ∧ Hid (J [] wr) ∧ Hid (Blk wr Bs [.slice none 0 0] 22))
  case atStart => exact ⟨rfl, HJ0, HB⟩
  case round =>
    obtain ⟨rfl, HJq, HBq⟩ := hrel
    clear HB HJ0
    have c1 := HBq.out.cell 0 rfl
    obtain ⟨fn, tmps, assign, body, hy, hRd⟩ := HY.out [] 0 wr HJq.out ⟨rfl, by omega⟩ (by intro k hk; simp at hk; subst hk; exact HBq.out.lt)
    rw [rowA_none] at hy
    have hm0 : min (0 : Int) 8000 = 0 := by decide
    gi_wp2
    refine hRd.mono ?_
    rintro e W3 (⟨rfl, hJ3, hk3⟩ | ⟨rfl, hJx3⟩)
    · have HJ3 := Lib.hid hJ3
      clear hk3 hJ3 hRd
      gi_wp2
      refine bodyPost_ret (results_none rfl _ _ _) rfl ?_
      exact ⟨⟨_, rfl⟩, .inl ⟨_, rfl, HJ3.out⟩⟩
    · have HJx3 := Lib.hid hJx3
      clear hJx3 hRd
      gi_wp2
      refine bodyPost_ret (results_none rfl _ _ _) rfl ?_
      exact ⟨⟨_, rfl⟩, .inr ⟨_, List.prefix_refl _, HJx3.out⟩⟩
theorem each_seqNA (Bs : Nat) (a : Option Addr) (n cap : Nat) (w : World) (ha : (a = none ∧ n = 0 ∧ cap = 0) ∨ ∃ g o, a = some ⟨g, o, none⟩) (hB : Blk w Bs [.slice a n cap] 22) (hn : n ≤ 1000000) (hc : n ≤ cap) (hcm : cap ≤ 9223372036854775807) :
    SeqN Tryz.prog 101 #[.pointer (some ⟨Bs, 0, none⟩)] (fun q : Nat => rowA a n cap q) [Bs] [Bs] (fun xs => xs = List.range (rowsN n)) (fun pre => pre <+: List.range (rowsN n)) (fun pre q => pre = List.range q ∧ q < rowsN n) w := by
  rcases ha with ⟨rfl, rfl, rfl⟩ | ⟨g, o, rfl⟩
  · exact each_seqN0 Bs w hB
  · have h := each_seqN1 Bs g o n cap w hB hn hc hcm
    simp only [← rowA_some] at h
    exact h
end Go.Proofs.YtdehkaknbmbieaaGreat
namespace Go.Proofs.YtdehkaknbmbieaaGreat
set_option linter.unusedVariables false
set_option linter.unusedSimpArgs false
set_option linter.unusedSectionVars false
open Go.RowKit Go.Shelf
attribute [local go_sem] Oper.semAt_some
set_option linter.unusedVariables false
set_option linter.unusedSimpArgs false

theorem wp_act {P : Program} {c : Code} {Q : Exit → Act → World → Prop} {a : Act} {w : World} (h : ∀ fr, fr = a → c.wp P Q fr w) : c.wp P Q a w := h a rfl
theorem Upd.putObj' {fp : List Nat} {a w : World} (h : Upd fp a w) {D : Nat} (hD : a.heap.size ≤ D) (o : Obj) : Upd fp a (w.putObj D o) := h.grown (grownBy_putObj' w D o) (fun k e => by cases e; exact .inr hD)
/-- A row of tokens. -/
def rowL (l : List Tok) (q : Nat) : List Tok := (l.drop (8000 * q)).take 8000
theorem rowL_len (l : List Tok) (q : Nat) : (rowL l q).length = min (l.length - 8000 * q) 8000 := by unfold rowL; rw [List.length_take, List.length_drop]; omega
theorem rowL_at (l : List Tok) (q i : Nat) (h : i < (rowL l q).length) : ∃ h2 : 8000 * q + i < l.length, (rowL l q)[i] = l[8000 * q + i] := by
  have h1 := h
  rw [rowL_len] at h1
  refine ⟨by omega, ?_⟩
  simp only [rowL, List.getElem_take, List.getElem_drop]
theorem TokIn.rowL {w : World} {a : Option Addr} {n : Nat} {l : List Tok} (h : TokIn w a n l) (q : Nat) : TokIn w (a.map fun p => p.add (24000 * q)) (min (n - 8000 * q) 8000) (rowL l q) :=
  ⟨by rw [rowL_len, h.len], fun i hi => by
    obtain ⟨h2, e⟩ := rowL_at l q i hi
    obtain ⟨b, off, rfl, ⟨c1, c2, c3⟩, r⟩ := h.cell (8000 * q + i) h2
    rw [e]
    refine ⟨b, off + 24000 * q, by simp only [Option.map_some]; rw [add_flat], ⟨?_, ?_, ?_⟩, r⟩
    · rw [show off + 24000 * q + i * 3 = off + (8000 * q + i) * 3 by omega]; exact c1
    · rw [show off + 24000 * q + i * 3 + 1 = off + (8000 * q + i) * 3 + 1 by omega]; exact c2
    · rw [show off + 24000 * q + i * 3 + 2 = off + (8000 * q + i) * 3 + 2 by omega]; exact c3⟩
end Go.Proofs.YtdehkaknbmbieaaGreat
namespace Go.Proofs.YtdehkaknbmbieaaGreat
set_option linter.unusedVariables false
set_option linter.unusedSimpArgs false
set_option linter.unusedSectionVars false
open Go.RowKit
attribute [local go_sem] Oper.semAt_some
set_option linter.unusedVariables false
set_option linter.unusedSimpArgs false

/-- The first least of the first i of three. -/
def bst (A B C : Int) (i : Nat) : Nat :=
  if i ≤ 1 then 0 else if i = 2 then (if B < A then 1 else 0) else if C < (if B < A then B else A) then 2 else if B < A then 1 else 0
def at3 (A B C : Int) (i : Nat) : Int := if i = 0 then A else if i = 1 then B else C
theorem bst_lt (A B C : Int) (i : Nat) : bst A B C i < 3 := by
  unfold bst
  (repeat' split) <;> omega
theorem bst_least (A B C : Int) (k : Nat) (hk : k < 3) : at3 A B C (bst A B C 3) ≤ at3 A B C k ∧ (k < bst A B C 3 → at3 A B C (bst A B C 3) < at3 A B C k) := by
  obtain rfl | rfl | rfl : k = 0 ∨ k = 1 ∨ k = 2 := by omega
  all_goals (unfold bst at3; simp only [show ¬ (3 : Nat) ≤ 1 by omega, show ¬ (3 : Nat) = 2 by omega, if_false]; by_cases h1 : B < A <;> by_cases h2 : C < B <;> by_cases h3 : C < A <;> simp [h1, h2, h3] <;> omega)
/-- deflate.Best of tokens. -/
def BestP (l : List Tok) (w : World) (e : Ending) (w' : World) : Prop := ∃ (lits backs lens : List Nat) (steps : List StpD) (t : Nat), MadeO l lits backs steps lens ∧ ToldO lens t ∧
  e = .returned (.int .i64 (bst ((35 + 8 * expLen l : Nat) : Int) (3 + bodyI (ints (fixP 4)) (ints (List.replicate 32 5)) (manyF l)) (((3 + (14 + 3 * t + szT lens steps) : Nat) : Int) + bodyI (ints lits) (ints backs) (manyF l)) 3 : Nat)) ∧ Upd [] w w'
set_option maxRecDepth 100000 in
set_option maxHeartbeats 3200000 in
theorem dbest_any (l : List Tok) (a : Option Addr) (n cap : Nat) (w : World) (hI : TokIn w a n l) (hn : n ≤ 100000) (hok : ∀ t ∈ l, okTok t) :
    Calls Tryz.prog 38 #[.slice a n cap] w fun e w' => BestP l w e w' := by
  have HS := Lib.hid (sizes_any l a n cap w hI hn hok)
  clear hI hok
  go_enter Tryz.func38, Tryz.ntmps38
  go_wp2_with fail
  refine HS.out.mono ?_
  rintro e w1 ⟨lits, backs, lens, steps, t, hM, hT, rfl, hU⟩
  have HM := Lib.hid hM
  have HT := Lib.hid hT
  have HU1 := Lib.hid hU
  obtain ⟨X, hX⟩ : ∃ X, X = ((35 + 8 * expLen l : Nat) : Int) := ⟨_, rfl⟩
  obtain ⟨Y, hY⟩ : ∃ X, X = (3 + bodyI (ints (fixP 4)) (ints (List.replicate 32 5)) (manyF l)) := ⟨_, rfl⟩
  obtain ⟨Z, hZ⟩ : ∃ X, X = (((3 + (14 + 3 * t + szT lens steps) : Nat) : Int) + bodyI (ints lits) (ints backs) (manyF l)) := ⟨_, rfl⟩
  rw [← hX, ← hY, ← hZ]
  have HX := Lib.hid hX
  have HY := Lib.hid hY
  have HZ := Lib.hid hZ
  clear hM hT hU hX hY hZ HS
  have HIX : Hid (∀ w (i : Nat), i < 3 → (Instr.index 39 (.agg #[.int .i64 X, .int .i64 Y, .int .i64 Z]) (.int .i64 (i : Nat))).run Tryz.prog w = .ok (.int .i64 (at3 X Y Z i)) w) := Lib.hid (fun w i hi => by
    obtain rfl | rfl | rfl : i = 0 ∨ i = 1 ∨ i = 2 := by omega
    all_goals exact run_indexAgg (P := Tryz.prog) 39 3 3 Tryz.underlying39 .i64 Tryz.underlying3 (by kernel_rfl) [.int .i64 X, .int .i64 Y, .int .i64 Z] rfl .i64 _ (by omega) w)
  go_simp
  go_wp2
  have HB := Lib.hid (Blk.new w1 [.int .i64 X, .int .i64 Y, .int .i64 Z] 39)
  have HU2 := Lib.hid (HU1.out.alloc (.cells #[.int .i64 X, .int .i64 Y, .int .i64 Z] 39))
  change Code.wp _ _ _ _ (w1.alloc (.cells #[.int .i64 X, .int .i64 Y, .int .i64 Z] 39))
  generalize w1.alloc (.cells #[.int .i64 X, .int .i64 Y, .int .i64 Z] 39) = w2 at *
  generalize w1.heap.size = b at *
  go_loopg [2, 9] 3 (fun gg s2 s9 wr => ∃ i : Nat, i ≤ 3 ∧ gg = 3 - i ∧ s9 = .int .i64 (i : Nat) ∧ s2 = .int .i64 (bst X Y Z i : Nat) ∧ wr = w2)
  case atStart => exact ⟨0, by omega, by omega, rfl, rfl, rfl⟩
  case round =>
    obtain ⟨i, hi3, rfl, rfl, rfl, hwr⟩ := hrel
    subst hwr
    have hbl := bst_lt X Y Z i
    by_cases hc : i < 3
    · have hix := HIX.out wr i hc
      have hw1 : IntKind.i64.wrap ((i : Int) + 1) = ((i + 1 : Nat) : Int) := by rw [IntWalk.i64_in _ (by omega)]; rfl
      have HN : Hid (bst X Y Z (i + 1) = if at3 X Y Z i < at3 X Y Z (bst X Y Z i) then i else bst X Y Z i) := Lib.hid (by
        obtain rfl | rfl | rfl : i = 0 ∨ i = 1 ∨ i = 2 := by omega
        · simp [bst, at3]
        · by_cases h1 : Y < X <;> simp [bst, at3, h1]
        · by_cases h1 : Y < X <;> by_cases h2 : Z < Y <;> by_cases h3 : Z < X <;> simp [bst, at3, h1, h2, h3])
      have hcz : (i : Int) < 3 := by omega
      generalize bst X Y Z i = K at *
      have hKc : wr.cell? ⟨b, K, none⟩ = some (.int .i64 (at3 X Y Z K)) := by
        obtain rfl | rfl | rfl : K = 0 ∨ K = 1 ∨ K = 2 := by omega
        all_goals exact HB.out.cell _ rfl
      generalize at3 X Y Z i = V at *
      generalize at3 X Y Z K = U at *
      go_wp2
      all_goals go_roundg (3 - (i + 1))
      · exact ⟨i + 1, by omega, by first | rfl | omega, by first | rfl | go_num, by rw [HN.out, if_pos (by omega)], rfl⟩
      · omega
      · exact ⟨i + 1, by omega, by first | rfl | omega, by first | rfl | go_num, by rw [HN.out, if_neg (by omega)], rfl⟩
      · omega
    · obtain rfl : i = 3 := by omega
      go_wp2
      go_ret
      exact ⟨lits, backs, lens, steps, t, HM.out, HT.out, by rw [HX.out, HY.out, HZ.out]; rfl, HU2.out⟩
set_option maxRecDepth 100000 in
set_option maxHeartbeats 3200000 in
/-- deflate.long: how many bytes tokens make. -/
theorem dlong_any (l : List Tok) (a : Option Addr) (n cap : Nat) (w : World) (hI : TokIn w a n l) (hn : n ≤ 100000) (hok : ∀ t ∈ l, okTok t) :
    Calls Tryz.prog 74 #[.slice a n cap] w fun e w' => e = .returned (.int .i64 (expLen l : Nat)) ∧ Upd [] w w' := by
  have hln := hI.len
  have HEL := Lib.hid (fun i => expLen_le (l.take i) (fun t h => hok t (List.mem_of_mem_take h)))
  have HOK := Lib.hid hok
  have HI := Lib.hid hI
  have HLN := Lib.hid hln
  clear hI hok hln
  go_enter Tryz.func74, Tryz.ntmps74
  go_wp2
  go_loopg [2, 7] 200000 (fun gg s2 s7 wr => ∃ i : Nat, i ≤ n ∧ gg = 200000 - i ∧ s7 = .int .i64 (i : Nat) ∧ s2 = .int .i64 (expLen (l.take i) : Nat) ∧ Hid (Upd [] w wr))
  case atStart => exact ⟨0, by omega, by omega, rfl, rfl, Lib.hid (Upd.refl _ _)⟩
  case round =>
    obtain ⟨i, hin, rfl, rfl, rfl, HU⟩ := hrel
    have hms : expLen (l.take i) ≤ 258 * i := Nat.le_trans (HEL.out i) (Nat.mul_le_mul_left _ (List.length_take_le _ _))
    by_cases hc : i < n
    · have hcz : (i : Int) < (n : Int) := by omega
      have hil : i < l.length := by rw [HLN.out]; exact hc
      have hw1 : IntKind.i64.wrap ((i : Int) + 1) = ((i + 1 : Nat) : Int) := by rw [IntWalk.i64_in _ (by omega)]; rfl
      obtain ⟨b, off, rfl, ⟨hc1, hc2, hc3⟩, r1, r2, r3⟩ := (HI.out.pure HU.out).cell i hil
      have HSM : Hid (expLen (l.take (i + 1)) = expLen (l.take i) + tokLen l[i]) := Lib.hid (by rw [List.take_succ_eq_append_getElem hil, expLen_snoc])
      have htl := tokLen_le (HOK.out _ (List.getElem_mem hil))
      have hmx : max 1 l[i].long = (tokLen l[i] : Int) := by unfold tokLen; split <;> omega
      generalize l[i] = t at *
      generalize tokLen t = mt at *
      obtain ⟨tb, tl, tk⟩ := t
      dsimp only at hc1 hc2 hc3 r1 r2 r3 hmx
      have HU4 := Lib.hid (HU.out.alloc (.cells #[.int .u8 (tb : Nat), .int .i64 tl, .int .i64 tk] 49))
      generalize expLen (l.take i) = ms at *
      have hws : IntKind.i64.wrap ((ms : Int) + (mt : Int)) = ((ms + mt : Nat) : Int) := by rw [IntWalk.i64_in _ (by omega)]; rfl
      clear hil
      go_wp2
      go_roundg (200000 - (i + 1))
      · exact ⟨i + 1, by omega, by first | rfl | omega, by first | rfl | go_num, by rw [HSM.out]; first | rfl | go_num, HU4⟩
      · omega
    · have hcz : ¬ (i : Int) < (n : Int) := by omega
      obtain rfl : i = n := by omega
      have htk : l.take i = l := List.take_of_length_le (by rw [HLN.out]; exact Nat.le_refl _)
      rw [htk] at hms ⊢
      clear htk
      go_wp2
      go_ret
      exact ⟨rfl, HU.out⟩
end Go.Proofs.YtdehkaknbmbieaaGreat
namespace Go.Proofs.YtdehkaknbmbieaaGreat
set_option linter.unusedVariables false
set_option linter.unusedSimpArgs false
set_option linter.unusedSectionVars false
open Go.RowKit
set_option linter.unusedVariables false
set_option linter.unusedSimpArgs false

theorem block_up {L M : List Bool} {l : List Tok} {k : Nat} {last : Bool} (hB : IsBlock L l k last M) (hok : ∀ t ∈ l, okTok t) (hn : l.length ≤ 100000) : M.length ≤ L.length + 10000000 := by
  have hml : (manyF l).1.length = 286 ∧ (manyF l).2.length = 30 := by have := many_ok l l.length (Nat.le_refl _); rw [List.take_length] at this; exact ⟨this.la, this.lb⟩
  rcases hB with ⟨h, e⟩ | ⟨h, e⟩ | ⟨h, lits', backs', steps', lens', t', hM', hT', e⟩
  · have hbl : (litBytes l).length = l.length := List.length_map _
    rw [e]
    unfold storeL
    rw [List.length_append, List.length_append, List.length_append, length_alignL, head_len, length_low, length_low, length_textBits, hbl]
    omega
  · rw [e, List.length_append, head_len]
    have := symsB_bits (fixP 4) (List.replicate 32 5) l
    have h2 := bodyI_bits _ _ (ints_in15 fix15.1) (ints_in15 fix15.2.1) l hn hok
    have h3 := bodyI_bd _ _ fix15.1 fix15.2.1 l hn hok
    omega
  · obtain ⟨_, _, _, _, x15, y15, hsy, hl7, _, hsl⟩ := hM'.bd hml
    rw [e, List.length_append, List.length_append, head_len]
    have h1 := tabB_le lits'.length backs'.length t' lens' steps' hT'.hi (fun x hx => by have := hl7 x hx; omega) (fun s hs => (hsy s hs).2)
    have := symsB_bits lits' backs' l
    have h2 := bodyI_bits _ _ (ints_in15 x15) (ints_in15 y15) l hn hok
    have h3 := bodyI_bd _ _ x15 y15 l hn hok
    omega
/-- How many bytes the first rows make. -/
def rowsB (l : List Tok) (q : Nat) : Nat := expLen (l.take (8000 * q))
theorem expLen_append (l r : List Tok) : expLen (l ++ r) = expLen l + expLen r := by unfold expLen; rw [List.map_append, List.sum_append]
theorem rowsB_succ (l : List Tok) (q : Nat) : rowsB l (q + 1) = rowsB l q + expLen (rowL l q) := by
  unfold rowsB rowL
  rw [← expLen_append, show 8000 * (q + 1) = 8000 * q + 8000 by omega, List.take_add]
theorem rowsB_le (l : List Tok) (q : Nat) : rowsB l q ≤ expLen l := by
  unfold rowsB
  have h : expLen l = expLen (l.take (8000 * q)) + expLen (l.drop (8000 * q)) := by rw [← expLen_append, List.take_append_drop]
  omega
/-- What a row is written as. -/
def rowT (bs : List Nat) (l : List Tok) (q k : Nat) : List Tok := if k = 0 then plainT ((bs.drop (rowsB l q)).take (expLen (rowL l q))) else rowL l q
/-- The first rows are written: bits L. KK tells which kinds may be. -/
inductive RT (bs : List Nat) (l : List Tok) (KK : List Tok → Nat → Prop) : Nat → List Bool → Prop
  | zero : RT bs l KK 0 []
  | succ {q k : Nat} {L M : List Bool} : RT bs l KK q L → KK (rowL l q) k → k ≤ 2 → IsBlock L (rowT bs l q k) k (decide (q + 1 = rowsN l.length)) M → RT bs l KK (q + 1) M
theorem rowL_ok {l : List Tok} (hok : ∀ t ∈ l, okTok t) (q : Nat) : ∀ t ∈ rowL l q, okTok t := fun t ht => hok t (List.mem_of_mem_drop (List.mem_of_mem_take ht))
theorem plainT_ok {bs : List Nat} (h : ∀ b ∈ bs, b < 256) : ∀ t ∈ plainT bs, okTok t := fun t ht => by
  obtain ⟨b, hb, rfl⟩ := List.mem_map.1 ht
  exact .inl ⟨rfl, rfl, h b hb⟩
theorem farN_plainT : ∀ b : List Nat, farN (plainT b) = 0
  | [] => rfl
  | x :: b => by
    have := farN_plainT b
    show farN (⟨x, 0, 0⟩ :: plainT b) = 0
    simp [farN] at this ⊢
    exact this
theorem rowT_ok {bs : List Nat} {l : List Tok} (hok : ∀ t ∈ l, okTok t) (hb : ∀ b ∈ bs, b < 256) (q k : Nat) : ∀ t ∈ rowT bs l q k, okTok t := by
  unfold rowT
  split
  · exact plainT_ok (fun b h => hb b (List.mem_of_mem_drop (List.mem_of_mem_take h)))
  · exact rowL_ok hok q
theorem rowT_len {bs : List Nat} {l : List Tok} (hbs : bs.length ≤ 65000) (q k : Nat) : (rowT bs l q k).length ≤ 65000 := by
  unfold rowT plainT
  split
  · rw [List.length_map, List.length_take, List.length_drop]; omega
  · rw [rowL_len]; omega
theorem RT.up {bs : List Nat} {l : List Tok} {KK : List Tok → Nat → Prop} (hok : ∀ t ∈ l, okTok t) (hb : ∀ b ∈ bs, b < 256) (hbs : bs.length ≤ 65000) : ∀ {q : Nat} {L : List Bool}, RT bs l KK q L → L.length ≤ 10000000 * q
  | _, _, .zero => by simp
  | _, _, .succ h _ _ hB => by
    have h1 := h.up hok hb hbs
    have h2 := block_up hB (rowT_ok hok hb _ _) (Nat.le_trans (rowT_len hbs _ _) (by omega))
    omega
theorem expTo_append : ∀ (A B : List Tok) (s : List Nat), expTo (A ++ B) s = (expTo A s).bind (expTo B)
  | [], B, s => rfl
  | t :: A, B, s => by
    rw [List.cons_append, expTo_cons, expTo_cons]
    split
    · split
      · rfl
      · exact expTo_append A B _
    · split
      · rfl
      · exact expTo_append A B _
theorem copyN_pre (s : List Nat) (back : Nat) : ∀ k, s <+: copyN s back k
  | 0 => List.prefix_refl _
  | k + 1 => by rw [copyN_succ]; exact (copyN_pre s back k).trans (List.prefix_append _ _)
theorem expTo_pre : ∀ (A : List Tok) (s r : List Nat), expTo A s = some r → s <+: r
  | [], s, r, h => by
    have e : s = r := by simpa [expTo] using h
    rw [e]; exact List.prefix_refl _
  | t :: A, s, r, h => by
    rw [expTo_cons] at h
    split at h
    · split at h
      · cases h
      · exact (List.prefix_append _ _).trans (expTo_pre A _ r h)
    · split at h
      · cases h
      · exact (copyN_pre _ _ _).trans (expTo_pre A _ r h)
theorem exp_plainT : ∀ (b s : List Nat), s.length + b.length ≤ 65000 → expTo (plainT b) s = some (s ++ b)
  | [], s, _ => by rw [List.append_nil]; rfl
  | x :: b, s, h => by
    have e : plainT (x :: b) = ⟨x, 0, 0⟩ :: plainT b := rfl
    rw [List.length_cons] at h
    rw [e, expTo_cons, if_pos rfl, if_neg (by rintro (h | h); exact h rfl; omega), exp_plainT b (s ++ [x]) (by rw [List.length_append, List.length_singleton]; omega), List.append_assoc]
    rfl
theorem exp_take {l : List Tok} {bs : List Nat} (hok : ∀ t ∈ l, okTok t) (he : expTo l [] = some bs) (m : Nat) : expTo (l.take m) [] = some (bs.take (expLen (l.take m))) := by
  have h := he
  rw [← List.take_append_drop m l, expTo_append] at h
  cases hr : expTo (l.take m) [] with
  | none => rw [hr] at h; cases h
  | some r =>
    rw [hr] at h
    have hp := expTo_pre _ _ _ h
    have hl := exp_length (l.take m) [] r (fun t ht => hok t (List.mem_of_mem_take ht)) hr
    rw [List.length_nil, Nat.zero_add] at hl
    rw [← hl, ← List.prefix_iff_eq_take.1 hp]
/-- A row expands to its bytes, whatever it is written as. -/
theorem exp_row {l : List Tok} {bs : List Nat} (hok : ∀ t ∈ l, okTok t) (he : expTo l [] = some bs) (hbs : bs.length ≤ 65000) (q k : Nat) : expTo (rowT bs l q k) (bs.take (rowsB l q)) = some (bs.take (rowsB l (q + 1))) := by
  unfold rowT
  split
  · rw [exp_plainT _ _ (by rw [List.length_take, List.length_take, List.length_drop]; omega), rowsB_succ, List.take_add]
  · have h := exp_take hok he (8000 * (q + 1))
    rw [show 8000 * (q + 1) = 8000 * q + 8000 by omega, List.take_add, expTo_append, exp_take hok he (8000 * q)] at h
    rw [show rowsB l (q + 1) = expLen (l.take (8000 * q) ++ (l.drop (8000 * q)).take 8000) by unfold rowsB; rw [show 8000 * (q + 1) = 8000 * q + 8000 by omega, List.take_add]]
    exact h
end Go.Proofs.YtdehkaknbmbieaaGreat
