/- Package deflate: the iterator over rows of tokens: its contract. -/
import Derived.Deep.QuietTactic
import Derived.BigQuiet
import Derived.Sort.QuietIn
import Derived.Stop.RegionWithIn
import Derived.OwnWalkIn
import Derived.TacticsInMore
import Derived.LoopNIn
import Derived.LoopIn
import Derived.Sort.LoopGhostIn
import Derived.Test.YtdehkaknbmbieaaQAP
import Derived.Test.YtdehkaknbmbieaaQBI
import Derived.OrdersIn
import Derived.TacticsIn
import Derived.WalkKit
import Derived.RangeFuncCalls
import Derived.Deep.RegionHeld
import Derived.Test.YtdehkaknbmbieaaQAE
namespace Go.Proofs.Ytdehkaknbmbieaa
set_option linter.unusedVariables false
set_option linter.unusedSimpArgs false
set_option linter.unusedSectionVars false
open Go.RowKit
attribute [local go_sem] Oper.semAt_some
set_option linter.unusedVariables false
set_option linter.unusedSimpArgs false

theorem each_any (a : Option Addr) (n c : Nat) (w : World) : Calls Try.prog 66 #[.slice a n c] w fun e w' =>
    e = .returned (.func (.func 90) #[] #[.pointer (some ⟨w.heap.size, 0, none⟩)]) ∧ w' = w.alloc (.cells #[.slice a n c] 35) := by
  go_enter Try.func66, Try.ntmps66
  go_wp2
  go_ret
  exact ⟨rfl, rfl⟩
/-- How many rows. -/
def rowsN (n : Nat) : Nat := if n = 0 then 1 else (n + 7999) / 8000
/-- A row of n tokens, and whether it is the last. -/
def rowV (g o n cap q : Nat) : Array Value := #[.slice (some ⟨g, o + 24000 * q, none⟩) (min (n - 8000 * q) 8000) (cap - 8000 * q), .bool (decide (q + 1 = rowsN n))]
theorem range_snoc (q : Nat) : List.range (q + 1) = List.range q ++ [q] := List.range_succ
theorem range_pre {a b : Nat} (h : a ≤ b) : List.range a <+: List.range b := by
  induction h with
  | refl => exact List.prefix_refl _
  | step _ ih => exact ih.trans ⟨_, (range_snoc _).symm⟩
set_option maxRecDepth 100000 in
set_option maxHeartbeats 2000000 in
theorem each_seqN1 (Bs g o n cap : Nat) (w : World) (hB : Blk w Bs [.slice (some ⟨g, o, none⟩) n cap] 35) (hn : n ≤ 1000000) (hc : n ≤ cap) (hcm : cap ≤ 9223372036854775807) :
    SeqN Try.prog 90 #[.pointer (some ⟨Bs, 0, none⟩)] (fun q : Nat => rowV g o n cap q) [Bs] [Bs] (fun xs => xs = List.range (rowsN n)) (fun pre => pre <+: List.range (rowsN n)) (fun pre q => pre = List.range q ∧ q < rowsN n) w := by
  intro l J Jx W hU hz hJ hJx hY h0
  have b1 : Blk W Bs [.slice (some ⟨g, o, none⟩) n cap] 35 := hB.upd hU (by simp)
  have HJ := Lib.hid hJ
  have HY := Lib.hid hY
  have HJ0 := Lib.hid h0
  clear hJ hY h0 hJx hU hz hB
  have HB := Lib.hid b1
  clear b1
  refine callsIn_of_wp Try.func90 rfl trivial ?_ rfl
  simp only [Try.ntmps90, List.size_toArray, List.length_cons, List.length_nil, Nat.reduceAdd, Nat.reduceSub, Array.replicate_succ, Array.replicate_zero, List.push_toArray, List.append_toArray, List.nil_append, List.cons_append]
  obtain ⟨R, hR⟩ : ∃ R, rowsN n = R := ⟨_, rfl⟩
  have HR := Lib.hid hR
  rw [hR] at HY ⊢
  have hRp : 0 < R := by rw [← hR]; unfold rowsN; split <;> omega
  clear hR
  gi_wp2
  gi_loopg [] R (fun gg wr => ∃ q : Nat, q < R ∧ gg = R - q ∧ Hid (8000 * q ≤ n) ∧ Hid (J (List.range q) wr) ∧ Hid (Blk wr Bs [.slice (some ⟨g, o + 24000 * q, none⟩) (n - 8000 * q) (cap - 8000 * q)] 35))
  case atStart => exact ⟨0, hRp, rfl, Lib.hid (by omega), HJ0, HB⟩
  case round =>
    obtain ⟨q, hq, rfl, HQ, HJq, HBq⟩ := hrel
    clear HB HJ0
    have c1 := HBq.out.cell 0 rfl
    have HRV : Hid (rowV g o n cap q = #[.slice (some ⟨g, o + 24000 * q, none⟩) (min (n - 8000 * q) 8000) (cap - 8000 * q), .bool (decide (q + 1 = R))]) := Lib.hid (by unfold rowV; rw [HR.out])
    have HQ2 : Hid (8000 * q ≤ n ∧ n ≤ cap ∧ (q + 1 = R ↔ n - 8000 * q ≤ 8000) ∧ cap ≤ 9223372036854775807) := Lib.hid ⟨HQ.out, hc, by have h1 := HR.out; have := HQ.out; unfold rowsN at h1; split at h1 <;> omega, hcm⟩
    have HN1 : Hid ((o + 24000 * q) + 24000 = o + 24000 * (q + 1) ∧ n - 8000 * q - 8000 = n - 8000 * (q + 1) ∧ cap - 8000 * q - 8000 = cap - 8000 * (q + 1)) := Lib.hid (by omega)
    obtain ⟨fn, tmps, assign, body, hy, hRd⟩ := HY.out (List.range q) q wr HJq.out ⟨rfl, hq⟩ (by intro k hk; simp at hk; subst hk; exact HBq.out.lt)
    have hmc : n - 8000 * q ≤ cap - 8000 * q := by omega
    have hm1 := HQ2.out.2.2.1
    have hc1 : cap - 8000 * q ≤ 9223372036854775807 := by omega
    have HQN : Hid (q + 1 ≠ R → 8000 * (q + 1) ≤ n) := Lib.hid (fun h => by have := HQ2.out; omega)
    clear HQ2 HQ
    rw [HRV.out] at hy
    generalize n - 8000 * q = m at *
    generalize cap - 8000 * q = C at *
    generalize o + 24000 * q = D at *
    by_cases hl : q + 1 = R
    · have hm8 := hm1.1 hl
      have hmn : min (m : Int) 8000 = (m : Int) := by omega
      rw [decide_eq_true hl, Nat.min_eq_left hm8] at hy
      have hmC : (m : Int) ≤ (C : Int) := by omega
      have hm0 : (0 : Int) ≤ (m : Int) := by omega
      have HL := Lib.hid hl
      clear hm1 hl
      gi_wp2
      refine hRd.mono ?_
      rintro e W3 (⟨rfl, hJ3, hk3⟩ | ⟨rfl, hJx3⟩)
      · have HJ3 := Lib.hid hJ3
        clear hk3 hJ3 hRd
        gi_wp2
        refine bodyPost_ret (results_none rfl _ _ _) rfl ?_
        exact ⟨⟨_, rfl⟩, .inl ⟨_, by rw [← HL.out, range_snoc], HJ3.out⟩⟩
      · have HJx3 := Lib.hid hJx3
        clear hJx3 hRd
        gi_wp2
        refine bodyPost_ret (results_none rfl _ _ _) rfl ?_
        exact ⟨⟨_, rfl⟩, .inr ⟨_, by rw [← HL.out, range_snoc]; exact List.prefix_refl _, HJx3.out⟩⟩
    · have hm8 : ¬ m ≤ 8000 := fun h => hl (hm1.2 h)
      have hmn : min (m : Int) 8000 = 8000 := by omega
      have hne : ¬ (8000 : Int) = (m : Int) := by omega
      rw [decide_eq_false hl, Nat.min_eq_right (by omega)] at hy
      have hmC : (8000 : Int) ≤ (C : Int) := by omega
      have hbe : ((8000 : Int) == (m : Int)) = false := by simp; omega
      have HL := Lib.hid hl
      have HQL : Hid (q + 1 < R) := Lib.hid (by omega)
      clear hm1 hl
      gi_wp2
      refine hRd.mono ?_
      rintro e W3 (⟨rfl, hJ3, hk3⟩ | ⟨rfl, hJx3⟩)
      · have HJ3 := Lib.hid hJ3
        have HB5 : Hid (Blk W3 Bs [.slice (some ⟨g, D, none⟩) m C] 35) := Lib.hid ((hk3.2 Bs (by simp)).trans HBq.out)
        have c5 := HB5.out.cell 0 rfl
        have f5 := HB5.out.frz 0
        clear hk3 hJ3 hRd c1
        gi_wp2
        have hB6 := HB5.out.set 0 (.slice (some ⟨g, D + 24000, none⟩) (m - 8000) (C - 8000))
        simp only [List.set_cons_zero] at hB6
        have hO6 : Own2 [Bs] W3 (W3.setCell ⟨Bs, 0, none⟩ (.slice (some ⟨g, D + 24000, none⟩) (m - 8000) (C - 8000))) :=
          own2_of (fq := [Bs]) ((Upd.refl [Bs] W3).setCell (p := ⟨Bs, 0, none⟩) (.inl (by simp)) _) (fun k hk => hk) (fun k hk => by simp at hk; subst hk; exact HB5.out.cellsOnly)
        have hJ6 := HJ.out (List.range (q + 1)) W3 _ (by rw [range_snoc]; exact HJ3.out) hO6
        rw [HN1.out.1, HN1.out.2.1, HN1.out.2.2] at hB6 hJ6 ⊢
        have HB6 := Lib.hid hB6
        have HJ6 := Lib.hid hJ6
        clear hB6 hJ6 hO6
        gi_roundg (R - (q + 1))
        all_goals first
          | (have := HQL.out; omega)
          | exact ⟨q + 1, HQL.out, rfl, Lib.hid (HQN.out HL.out), HJ6, HB6⟩
      · have HJx3 := Lib.hid hJx3
        clear hJx3 hRd
        gi_wp2
        refine bodyPost_ret (results_none rfl _ _ _) rfl ?_
        exact ⟨⟨_, rfl⟩, .inr ⟨_, by rw [← range_snoc]; exact range_pre (Nat.le_of_lt HQL.out), HJx3.out⟩⟩
/-- A row of tokens, and whether it is the last: also of no slice. -/
def rowA (a : Option Addr) (n cap q : Nat) : Array Value := #[.slice (a.map fun p => p.add (24000 * q)) (min (n - 8000 * q) 8000) (cap - 8000 * q), .bool (decide (q + 1 = rowsN n))]
theorem rowA_none : rowA none 0 0 0 = #[.slice none 0 0, .bool true] := by unfold rowA rowsN; simp
theorem rowA_some (g o n cap q : Nat) : rowA (some ⟨g, o, none⟩) n cap q = rowV g o n cap q := by unfold rowA rowV; simp only [Option.map_some]; first | rfl | rw [add_flat]
set_option maxRecDepth 100000 in
set_option maxHeartbeats 2000000 in
theorem each_seqN0 (Bs : Nat) (w : World) (hB : Blk w Bs [.slice none 0 0] 35) :
    SeqN Try.prog 90 #[.pointer (some ⟨Bs, 0, none⟩)] (fun q : Nat => rowA none 0 0 q) [Bs] [Bs] (fun xs => xs = List.range (1)) (fun pre => pre <+: List.range (1)) (fun pre q => pre = List.range q ∧ q < 1) w := by
  intro l J Jx W hU hz hJ hJx hY h0
  have b1 : Blk W Bs [.slice none 0 0] 35 := hB.upd hU (by simp)
  have HJ := Lib.hid hJ
  have HY := Lib.hid hY
  have HJ0 := Lib.hid h0
  clear hJ hY h0 hJx hU hz hB
  have HB := Lib.hid b1
  clear b1
  refine callsIn_of_wp Try.func90 rfl trivial ?_ rfl
  simp only [Try.ntmps90, List.size_toArray, List.length_cons, List.length_nil, Nat.reduceAdd, Nat.reduceSub, Array.replicate_succ, Array.replicate_zero, List.push_toArray, List.append_toArray, List.nil_append, List.cons_append]
  gi_wp2
  gi_loopg [] 1 (fun gg wr => gg = 1 ∧ Hid (J [] wr) ∧ Hid (Blk wr Bs [.slice none 0 0] 35))
  case atStart => exact ⟨rfl, HJ0, HB⟩
  case round =>
    obtain ⟨rfl, HJq, HBq⟩ := hrel
    clear HB HJ0
    have c1 := HBq.out.cell 0 rfl
    obtain ⟨fn, tmps, assign, body, hy, hRd⟩ := HY.out [] 0 wr HJq.out ⟨rfl, by omega⟩ (by intro k hk; simp at hk; subst hk; exact HBq.out.lt)
    rw [rowA_none] at hy
    have hm0 : min (0 : Int) 8000 = 0 := by decide
    gi_wp2
    refine hRd.mono ?_
    rintro e W3 (⟨rfl, hJ3, hk3⟩ | ⟨rfl, hJx3⟩)
    · have HJ3 := Lib.hid hJ3
      clear hk3 hJ3 hRd
      gi_wp2
      refine bodyPost_ret (results_none rfl _ _ _) rfl ?_
      exact ⟨⟨_, rfl⟩, .inl ⟨_, rfl, HJ3.out⟩⟩
    · have HJx3 := Lib.hid hJx3
      clear hJx3 hRd
      gi_wp2
      refine bodyPost_ret (results_none rfl _ _ _) rfl ?_
      exact ⟨⟨_, rfl⟩, .inr ⟨_, List.prefix_refl _, HJx3.out⟩⟩
theorem each_seqNA (Bs : Nat) (a : Option Addr) (n cap : Nat) (w : World) (ha : (a = none ∧ n = 0 ∧ cap = 0) ∨ ∃ g o, a = some ⟨g, o, none⟩) (hB : Blk w Bs [.slice a n cap] 35) (hn : n ≤ 1000000) (hc : n ≤ cap) (hcm : cap ≤ 9223372036854775807) :
    SeqN Try.prog 90 #[.pointer (some ⟨Bs, 0, none⟩)] (fun q : Nat => rowA a n cap q) [Bs] [Bs] (fun xs => xs = List.range (rowsN n)) (fun pre => pre <+: List.range (rowsN n)) (fun pre q => pre = List.range q ∧ q < rowsN n) w := by
  rcases ha with ⟨rfl, rfl, rfl⟩ | ⟨g, o, rfl⟩
  · exact each_seqN0 Bs w hB
  · have h := each_seqN1 Bs g o n cap w hB hn hc hcm
    simp only [← rowA_some] at h
    exact h
theorem each_seqA (Bs : Nat) (a : Option Addr) (n cap : Nat) (w : World) (ha : (a = none ∧ n = 0 ∧ cap = 0) ∨ ∃ g o, a = some ⟨g, o, none⟩) (hB : Blk w Bs [.slice a n cap] 35) (hn : n ≤ 1000000) (hc : n ≤ cap) (hcm : cap ≤ 9223372036854775807) :
    SeqW Try.prog 90 #[.pointer (some ⟨Bs, 0, none⟩)] (fun q : Nat => rowA a n cap q) [Bs] [Bs] (fun xs => xs = List.range (rowsN n)) (fun pre => pre <+: List.range (rowsN n)) (rowsN n) w :=
  (each_seqNA Bs a n cap w ha hB hn hc hcm).wide (fun pre x h => by rw [h.1, List.length_range]; exact h.2)
end Go.Proofs.Ytdehkaknbmbieaa
namespace Go.Proofs.Ytdehkaknbmbieaa
set_option linter.unusedVariables false
set_option linter.unusedSimpArgs false
set_option linter.unusedSectionVars false
open Go.RowKit

def noDefers (ops : Array Oper) : Bool := ops.all fun o => match o.op with | .defer _ => false | _ => true
theorem noDefers_spec {ops : Array Oper} (h : noDefers ops = true) {i : Nat} {o : Oper} (hi : ops[i]? = some o) : ∀ c, o.op ≠ .defer c := by
  intro c e
  unfold noDefers at h
  rw [Array.all_eq_true] at h
  obtain ⟨hl, hg⟩ := Array.getElem?_eq_some_iff.1 hi
  have := h i hl
  rw [hg, e] at this
  cases this
theorem rowsIn_of {n l : Nat} {P : Program} {row : String} {args : Array Value} {w : World} {R : Value → World → Prop} (h : Rows P row args w R) : RowsIn (Fence.wide.inRound l) n P row args w R := by
  intro c cs _
  obtain ⟨v, w', hr, hs⟩ := h c cs
  refine ⟨v, w', hr, ?_⟩
  rw [fenced_inRound]
  exact stepsIn_wide.2 hs
theorem opIn_of {n l : Nat} {P : Program} {o : Oper} {a : Act} {w : World} {K : Act → World → Prop} {Q : Exit → Act → World → Prop} (hd : ∀ c, o.op ≠ .defer c) (h : o.wp P a w K Q) : o.wpIn (Fence.wide.inRound l) n P a w K Q := by
  refine ⟨fun _ _ => trivial, ?_⟩
  rw [Oper.semAt_eq _ _ _ hd]
  unfold Oper.wp at h
  generalize (execOp a.eval o).run P w = r at h ⊢
  cases r with
  | ok x w' =>
    cases x with
    | value v => exact h
    | skip => exact h
    | defer d => exact h
    | enter f args => exact ⟨fun e => by simp [Fence.inRound, Fence.wide] at e, CallsIn.inRound l ((callsIn_wide.2 h).mono fun e w'' he => by cases e <;> exact he)⟩
    | row r args => exact ⟨fun e => by simp [Fence.inRound, Fence.wide] at e, rowsIn_of h⟩
    | _ => exact h.elim
  | halt x w' => cases x <;> exact h
theorem wpOpIn_of {n l : Nat} {P : Program} {ops : Array Oper} {Q : Exit → Act → World → Prop} (hno : ¬ LetsOut Q) (hd : noDefers ops = true) {i : Nat} {K : Act → World → Prop} {a : Act} {w : World} (h : wpOp P ops Q i K a w) : wpOpIn (Fence.wide.inRound l) n P ops Q i K a w := by
  unfold wpOp at h
  unfold wpOpIn
  cases hi : ops[i]? with
  | none => rw [hi] at h; exact h
  | some o =>
    rw [hi] at h
    simp only at h ⊢
    by_cases hw : Region.wanted o (yielded ops a.tmps) = true
    · rw [if_pos hw] at h ⊢
      rcases h with h | h
      · exact opIn_of (noDefers_spec hd hi) h
      · exact absurd h.2 hno
    · rw [if_neg hw] at h ⊢
      exact ⟨fun _ _ => trivial, h⟩
theorem wpAnyIn_of {n l : Nat} {P : Program} {md : Region.Mode} {ops : Array Oper} {Q : Exit → Act → World → Prop} (hno : ¬ LetsOut Q) (hd : noDefers ops = true) : ∀ (fuel : Nat) (listed : Array Bool) (a : Act) (w : World), wpAny P md ops Q fuel listed a w → wpAnyIn (Fence.wide.inRound l) n P md ops Q fuel listed a w
  | 0, _, _, _, h => h
  | fuel + 1, listed, a, w, h => ⟨h.1, fun i hi => wpOpIn_mono (fun a' w' h' => wpAnyIn_of hno hd fuel _ a' w' h') (wpOpIn_of hno hd (h.2 i hi))⟩
/-- **A region that draws its order, in a round: as in a plain walk, where it does not panic.** -/
theorem regionIn_held {n l id : Nat} {P : Program} {ops : Array Oper} {Q : Exit → Act → World → Prop} {S : World → Prop} {a : Act} {w : World} (hm : P.follows .mixedOrders = true) (hd : noDefers ops = true) (hS : S w.drew)
    (h : S w.drew → ∀ K : Act → World → Prop, (∀ a w, Q .normal a w → K a w) → wpAnyH P .any ops (Exit.then K fun _ _ _ => False) S ops.size (Array.replicate ops.size false) a w.drew) : (Code.region id ops true).wpIn (Fence.wide.inRound l) n P Q a w := by
  refine wpIn_mono (wpIn_region_any hm (wpAnyIn_of ?_ hd _ _ _ _ (wpAny_of_held _ _ _ _ (h hS (fun a w => Q .normal a w) fun _ _ h => h)))) ?_
  · rintro ⟨a, w, h⟩
    exact h
  · intro e a w h
    cases e <;> first | exact h | exact h.elim
end Go.Proofs.Ytdehkaknbmbieaa
