/- slices.Chunk of bytes: the iterator's contract. -/
import Derived.Test.YtibmhadnfggmlaaDoorDRef
import Derived.Test.YtibmhadnfggmlaaDoorGA
import Derived.Deep.QuietTactic
import Derived.BigQuiet
import Derived.Sort.QuietIn
import Derived.Stop.RegionWithIn
namespace Go.Proofs.YtibmhadnfggmlaaDoor
set_option linter.unusedVariables false
set_option linter.unusedSimpArgs false
set_option linter.unusedSectionVars false
open Go.RowKit Go.Shelf
attribute [local go_sem] Oper.semAt_some
set_option linter.unusedVariables false
set_option linter.unusedSimpArgs false

theorem chunk_any (a : Option Addr) (n c : Nat) (w : World) : Calls Tryd.prog 59 #[.slice a n c, .int .i64 16] w fun e w' =>
    e = .returned (.func (.func 105) #[] #[.pointer (some ⟨w.heap.size, 0, none⟩), .pointer (some ⟨w.heap.size + 1, 0, none⟩)]) ∧
    w' = (w.alloc (.cells #[.slice a n c] 28)).alloc (.cells #[.int .i64 16] 3) := by
  go_enter Tryd.func59, Tryd.ntmps59
  go_wp2
  go_ret
  exact ⟨rfl, rfl⟩
/-- The pieces of a row of n bytes, as slices. -/
def chunkV (g n i : Nat) : Value := .slice (some ⟨g, 16 * i, none⟩) (min 16 (n - 16 * i)) (min 16 (n - 16 * i))
abbrev Piece (n : Nat) := { i : Nat // 16 * i < n }
theorem range_snoc (q : Nat) : List.range (q + 1) = List.range q ++ [q] := List.range_succ
theorem range_pre {a b : Nat} (h : a ≤ b) : List.range a <+: List.range b := by
  induction h with
  | refl => exact List.prefix_refl _
  | step _ ih => exact ih.trans ⟨_, (range_snoc _).symm⟩
set_option maxRecDepth 100000 in
set_option maxHeartbeats 2000000 in
theorem chunk_seq (Bs Bn g n cap : Nat) (w : World) (hB : Blk w Bs [.slice (some ⟨g, 0, none⟩) n cap] 28) (hN : Blk w Bn [.int .i64 16] 3) (hn : n ≤ 1000000) (hc : n ≤ cap) :
    SeqW Tryd.prog 105 #[.pointer (some ⟨Bs, 0, none⟩), .pointer (some ⟨Bn, 0, none⟩)] (fun i : Piece n => #[chunkV g n i.1]) [] [Bs, Bn] (fun xs => xs.map Subtype.val = List.range ((n + 15) / 16)) (fun pre => pre.map Subtype.val <+: List.range ((n + 15) / 16)) ((n + 15) / 16) w := by
  intro l J Jx W hU hz hJ hJx hY h0
  have b1 : Blk W Bs [.slice (some ⟨g, 0, none⟩) n cap] 28 := hB.upd hU (by simp)
  have b2 : Blk W Bn [.int .i64 16] 3 := hN.upd hU (by simp)
  have HJ := Lib.hid hJ
  have HY := Lib.hid hY
  have HJ0 := Lib.hid h0
  clear hJ hY h0 hJx hU hz hB hN
  have HB : Hid (Blk W Bs [.slice (some ⟨g, 0, none⟩) n cap] 28 ∧ Blk W Bn [.int .i64 16] 3) := Lib.hid ⟨b1, b2⟩
  clear b1 b2
  refine callsIn_of_wp Tryd.func105 rfl trivial ?_ rfl
  simp only [Tryd.ntmps105, List.size_toArray, List.length_cons, List.length_nil, Nat.reduceAdd, Nat.reduceSub, Array.replicate_succ, Array.replicate_zero, List.push_toArray, List.append_toArray, List.nil_append, List.cons_append]
  gi_wp2
  gi_loopg [4] (n + 16) (fun gg s4 wr => ∃ (q p : Nat) (pre : List (Piece n)), Hid (p = 16 * q) ∧ Hid (pre.map Subtype.val = List.range q) ∧ p ≤ n + 15 ∧ gg = n + 16 - p ∧ s4 = .int .i64 (p : Nat) ∧ Hid (J pre wr) ∧ Hid (Blk wr Bs [.slice (some ⟨g, 0, none⟩) n cap] 28 ∧ Blk wr Bn [.int .i64 16] 3))
  case atStart => exact ⟨0, 0, [], Lib.hid rfl, Lib.hid rfl, by omega, rfl, rfl, HJ0, HB⟩
  case round =>
    obtain ⟨q, p, pre, HP, HPR, hp, rfl, rfl, HJp, HBk⟩ := hrel
    clear HB HJ0
    have c1 := HBk.out.1.cell 0 rfl
    have c2 := HBk.out.2.cell 0 rfl
    by_cases hcp : p < n
    · have hcz : (p : Int) < (n : Int) := by omega
      have hqn : q < (n + 15) / 16 := by have := HP.out; omega
      have hsl0 : (0 : Int) ≤ (p : Int) := by omega
      have hsl1 : (p : Int) ≤ (n : Int) := by omega
      gi_wp2_with fail
      gi_quiet (fail)
      have hJ4 : J pre (wr.drewN nq) := HJ.out _ _ _ HJp.out (own2_of (fq := []) ((Upd.refl [] wr).drewN nq) (by simp) (by simp))
      have e1 : ((p : Int) + min 16 ((n - p : Nat) : Int)).toNat - p = min 16 (n - p) := by omega
      have e2 : chunkV g n q = .slice (some ⟨g, p, none⟩) (min 16 (n - p)) (min 16 (n - p)) := by unfold chunkV; rw [← HP.out]
      have hB4 : Blk (wr.drewN nq) Bs [.slice (some ⟨g, 0, none⟩) n cap] 28 ∧ Blk (wr.drewN nq) Bn [.int .i64 16] 3 := ⟨HBk.out.1.drewN nq, HBk.out.2.drewN nq⟩
      have HB4 := Lib.hid hB4
      have c3 := hB4.1.cell 0 rfl
      have HP2 : Hid (p + 16 = 16 * (q + 1)) := Lib.hid (by have := HP.out; omega)
      obtain ⟨fn, tmps, assign, body, hy, hRd⟩ := HY.out pre ⟨q, by rw [← HP.out]; exact hcp⟩ (wr.drewN nq) hJ4 (by have := congrArg List.length HPR.out; rw [List.length_map, List.length_range] at this; rw [this]; exact hqn) (by simp)
      have HPS : Hid ((pre ++ [(⟨q, by rw [← HP.out]; exact hcp⟩ : Piece n)]).map Subtype.val = List.range (q + 1)) := Lib.hid (by rw [List.map_append, HPR.out, range_snoc]; rfl)
      dsimp only at hy
      rw [e2, ← e1] at hy
      clear e1 e2 hJ4 hB4 HJp HBk
      have HQN := Lib.hid hqn
      clear hqn
      generalize wr.drewN nq = w4 at *
      gi_wp2
      refine hRd.mono ?_
      rintro e W3 (⟨rfl, hJ3, hk3⟩ | ⟨rfl, hJx3⟩)
      · have HB5 : Hid (Blk W3 Bs [.slice (some ⟨g, 0, none⟩) n cap] 28 ∧ Blk W3 Bn [.int .i64 16] 3) := Lib.hid ⟨(hk3.2 Bs (by simp)).trans HB4.out.1, (hk3.2 Bn (by simp)).trans HB4.out.2⟩
        have HJ3 := Lib.hid hJ3
        have c2 := HB5.out.2.cell 0 rfl
        clear hk3 hJ3 hRd
        gi_wp2
        gi_roundg (n + 16 - (p + 16))
        all_goals first
          | omega
          | exact ⟨q + 1, p + 16, _, HP2, HPS, by omega, rfl, by first | rfl | go_num, HJ3, HB5⟩
      · have HJx3 := Lib.hid hJx3
        clear hJx3 hRd
        gi_wp2
        refine bodyPost_ret (results_none rfl _ _ _) rfl ?_
        exact ⟨⟨_, rfl⟩, .inr ⟨_, by rw [HPS.out]; exact range_pre HQN.out, HJx3.out⟩⟩
    · have hcz : ¬ (p : Int) < (n : Int) := by omega
      have HQE : Hid (q = (n + 15) / 16) := Lib.hid (by have := HP.out; omega)
      gi_wp2
      go_end0
      exact ⟨⟨_, rfl⟩, .inl ⟨pre, by have := HPR.out; rw [HQE.out] at this; simpa using this, HJp.out⟩⟩
end Go.Proofs.YtibmhadnfggmlaaDoor
