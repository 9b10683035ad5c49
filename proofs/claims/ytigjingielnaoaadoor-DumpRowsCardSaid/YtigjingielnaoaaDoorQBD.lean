/- Package swingleref43: Hex: its walk; lines of digits (plain). -/
import Derived.Test.YtigjingielnaoaaDoorQAO
import Derived.Deep.QuietTactic
import Derived.BigQuiet
import Derived.Sort.QuietIn
import Derived.Stop.RegionWithIn
import Derived.Test.YtigjingielnaoaaDoorQAH
import Derived.OrdersIn
import Derived.TacticsIn
import Derived.WalkKit
import Derived.RangeFuncCalls
import Derived.Deep.RegionHeld
import Derived.Test.YtigjingielnaoaaDoorQAB
import Derived.Test.YtigjingielnaoaaDoorQAN
import Derived.Test.YtigjingielnaoaaDoorDosPa
namespace Go.Proofs.YtigjingielnaoaaDoor
set_option linter.unusedVariables false
set_option linter.unusedSimpArgs false
set_option linter.unusedSectionVars false
open Go.RowKit
set_option linter.unusedVariables false
set_option linter.unusedSimpArgs false

/-- A line: where it begins, and its bytes. -/
def hexLine (a : Nat) (L : List Nat) : List Nat := joinC 32 (hexP a 8 :: L.map fun b => hexP b 2)
/-- So many lines. -/
def hexTo (at_ : Nat) (L : List Nat) (q : Nat) : List (List Nat) := (List.range q).map fun i => hexLine (at_ + 16 * i) ((L.drop (16 * i)).take 16)
def hexLines (at_ : Nat) (L : List Nat) : List (List Nat) := hexTo at_ L ((L.length + 15) / 16)
theorem hexTo_succ (at_ : Nat) (L : List Nat) (q : Nat) : hexTo at_ L (q + 1) = hexTo at_ L q ++ [hexLine (at_ + 16 * q) ((L.drop (16 * q)).take 16)] := by
  unfold hexTo; rw [List.range_succ, List.map_append]; rfl
theorem hexLine_len (a : Nat) : ∀ L : List Nat, (hexLine a L).length = 8 + 3 * L.length := by
  intro L
  unfold hexLine
  rw [joinC_tot]
  have h : ∀ L : List Nat, totC (L.map fun b => hexP b 2) = 2 * L.length := by
    intro L
    induction L with
    | nil => rfl
    | cons b r ih =>
      unfold totC at ih ⊢
      simp only [List.map_cons, List.sum_cons, List.length_cons, hexP_len] at ih ⊢
      rw [ih]; omega
  have e : totC (hexP a 8 :: L.map fun b => hexP b 2) = 8 + totC (L.map fun b => hexP b 2) := by
    unfold totC; simp only [List.map_cons, List.sum_cons, hexP_len]
  rw [e, h]
  simp only [List.length_cons, List.length_map]
  omega
theorem hexP_lt2 (n k : Nat) : ∀ x ∈ hexP n k, x < 256 := fun x hx => by have := hexP_dig k n x hx; omega
/-- A slice of strings of the call's own. -/
def OwnS (w0 w : World) (v : Value) (L : List (List Nat)) : Prop := Row w 9 1 v L.length (strsV L) ∧ ∀ k, v.ownBlock = some k → w0.heap.size ≤ k
theorem OwnS.nil (w0 w : World) : OwnS w0 w (.slice none 0 0) [] := ⟨Row.nil _ _ _, fun k h => by cases h⟩
theorem OwnS.upd {w0 w w' : World} {v : Value} {L : List (List Nat)} (h : OwnS w0 w v L) (hu : Upd [] w w') : OwnS w0 w' v L := ⟨h.1.upd hu (by simp), h.2⟩
theorem OwnS.texts {w0 w : World} {v : Value} {L : List (List Nat)} (h : OwnS w0 w v L) : TextsAt w v L := Row.textsAt h.1
theorem OwnS.app {w0 w w' : World} {v v' : Value} {L : List (List Nat)} {p : List Nat} (o : Obj) (h : OwnS w0 w v L) (hu : Upd [] w0 w) (hR : Row w' 9 1 v' (L.length + 1) (strsV L ++ [.string (strOf p)])) (hU : Upd v.ownBlock.toList (w.alloc o) w') (hT : Later (w.alloc o) v v') :
    OwnS w0 w' v' (L ++ [p]) ∧ Upd [] w0 w' := by
  refine ⟨⟨?_, ?_⟩, ?_⟩
  · rw [List.length_append, List.length_singleton]
    have e : strsV (L ++ [p]) = strsV L ++ [.string (strOf p)] := by unfold strsV; rw [List.map_append]; rfl
    rw [e]; exact hR
  · intro k hk
    rcases hT with h1 | ⟨g, h1, h2⟩
    · exact h.2 k (by rw [← h1]; exact hk)
    · rw [h1] at hk; simp at hk h2; have := hu.size; omega
  · exact (hu.alloc o).trans hU (fun k hk => .inr (h.2 k (by simpa using hk)))
theorem OwnS.form {w0 w : World} {v : Value} {L : List (List Nat)} (h : OwnS w0 w v L) : ∃ a c, v = .slice a L.length c := h.1.form
end Go.Proofs.YtigjingielnaoaaDoor
namespace Go.Proofs.YtigjingielnaoaaDoor
set_option linter.unusedVariables false
set_option linter.unusedSimpArgs false
set_option linter.unusedSectionVars false
open Go.RowKit Go.Shelf
attribute [local go_sem] Oper.semAt_some
set_option linter.unusedVariables false
set_option linter.unusedSimpArgs false

theorem chunk_any (a : Option Addr) (n c : Nat) (w : World) : Calls Tryd.prog 52 #[.slice a n c, .int .i64 16] w fun e w' =>
    e = .returned (.func (.func 89) #[] #[.pointer (some ⟨w.heap.size, 0, none⟩), .pointer (some ⟨w.heap.size + 1, 0, none⟩)]) ∧
    w' = (w.alloc (.cells #[.slice a n c] 85)).alloc (.cells #[.int .i64 16] 3) := by
  go_enter Tryd.func52, Tryd.ntmps52
  go_wp2
  go_ret
  exact ⟨rfl, rfl⟩
/-- The pieces of a row of n bytes, as slices. -/
def chunkV (g n i : Nat) : Value := .slice (some ⟨g, 16 * i, none⟩) (min 16 (n - 16 * i)) (min 16 (n - 16 * i))
abbrev Piece (n : Nat) := { i : Nat // 16 * i < n }
theorem range_snoc (q : Nat) : List.range (q + 1) = List.range q ++ [q] := List.range_succ
theorem range_pre {a b : Nat} (h : a ≤ b) : List.range a <+: List.range b := by
  induction h with
  | refl => exact List.prefix_refl _
  | step _ ih => exact ih.trans ⟨_, (range_snoc _).symm⟩
set_option maxRecDepth 100000 in
set_option maxHeartbeats 2000000 in
theorem chunk_seq (Bs Bn g n cap : Nat) (w : World) (hB : Blk w Bs [.slice (some ⟨g, 0, none⟩) n cap] 85) (hN : Blk w Bn [.int .i64 16] 3) (hn : n ≤ 1000000) (hc : n ≤ cap) :
    SeqW Tryd.prog 89 #[.pointer (some ⟨Bs, 0, none⟩), .pointer (some ⟨Bn, 0, none⟩)] (fun i : Piece n => #[chunkV g n i.1]) [] [Bs, Bn] (fun xs => xs.map Subtype.val = List.range ((n + 15) / 16)) (fun pre => pre.map Subtype.val <+: List.range ((n + 15) / 16)) ((n + 15) / 16) w := by
  intro l J Jx W hU hz hJ hJx hY h0
  have b1 : Blk W Bs [.slice (some ⟨g, 0, none⟩) n cap] 85 := hB.upd hU (by simp)
  have b2 : Blk W Bn [.int .i64 16] 3 := hN.upd hU (by simp)
  have HJ := Lib.hid hJ
  have HY := Lib.hid hY
  have HJ0 := Lib.hid h0
  clear hJ hY h0 hJx hU hz hB hN
  have HB : Hid (Blk W Bs [.slice (some ⟨g, 0, none⟩) n cap] 85 ∧ Blk W Bn [.int .i64 16] 3) := Lib.hid ⟨b1, b2⟩
  clear b1 b2
  refine callsIn_of_wp Tryd.func89 rfl trivial ?_ rfl
  simp only [Tryd.ntmps89, List.size_toArray, List.length_cons, List.length_nil, Nat.reduceAdd, Nat.reduceSub, Array.replicate_succ, Array.replicate_zero, List.push_toArray, List.append_toArray, List.nil_append, List.cons_append]
  gi_wp2
  gi_loopg [4] (n + 16) (fun gg s4 wr => ∃ (q p : Nat) (pre : List (Piece n)), Hid (p = 16 * q) ∧ Hid (pre.map Subtype.val = List.range q) ∧ p ≤ n + 15 ∧ gg = n + 16 - p ∧ s4 = .int .i64 (p : Nat) ∧ Hid (J pre wr) ∧ Hid (Blk wr Bs [.slice (some ⟨g, 0, none⟩) n cap] 85 ∧ Blk wr Bn [.int .i64 16] 3))
  case atStart => exact ⟨0, 0, [], Lib.hid rfl, Lib.hid rfl, by omega, rfl, rfl, HJ0, HB⟩
  case round =>
    obtain ⟨q, p, pre, HP, HPR, hp, rfl, rfl, HJp, HBk⟩ := hrel
    clear HB HJ0
    have c1 := HBk.out.1.cell 0 rfl
    have c2 := HBk.out.2.cell 0 rfl
    by_cases hcp : p < n
    · have hcz : (p : Int) < (n : Int) := by omega
      have hqn : q < (n + 15) / 16 := by have := HP.out; omega
      have hsl0 : (0 : Int) ≤ (p : Int) := by omega
      have hsl1 : (p : Int) ≤ (n : Int) := by omega
      gi_wp2_with fail
      gi_quiet (fail)
      have hJ4 : J pre (wr.drewN nq) := HJ.out _ _ _ HJp.out (own2_of (fq := []) ((Upd.refl [] wr).drewN nq) (by simp) (by simp))
      have e1 : ((p : Int) + min 16 ((n - p : Nat) : Int)).toNat - p = min 16 (n - p) := by omega
      have e2 : chunkV g n q = .slice (some ⟨g, p, none⟩) (min 16 (n - p)) (min 16 (n - p)) := by unfold chunkV; rw [← HP.out]
      have hB4 : Blk (wr.drewN nq) Bs [.slice (some ⟨g, 0, none⟩) n cap] 85 ∧ Blk (wr.drewN nq) Bn [.int .i64 16] 3 := ⟨HBk.out.1.drewN nq, HBk.out.2.drewN nq⟩
      have HB4 := Lib.hid hB4
      have c3 := hB4.1.cell 0 rfl
      have HP2 : Hid (p + 16 = 16 * (q + 1)) := Lib.hid (by have := HP.out; omega)
      obtain ⟨fn, tmps, assign, body, hy, hRd⟩ := HY.out pre ⟨q, by rw [← HP.out]; exact hcp⟩ (wr.drewN nq) hJ4 (by have := congrArg List.length HPR.out; rw [List.length_map, List.length_range] at this; rw [this]; exact hqn) (by simp)
      have HPS : Hid ((pre ++ [(⟨q, by rw [← HP.out]; exact hcp⟩ : Piece n)]).map Subtype.val = List.range (q + 1)) := Lib.hid (by rw [List.map_append, HPR.out, range_snoc]; rfl)
      dsimp only at hy
      rw [e2, ← e1] at hy
      clear e1 e2 hJ4 hB4 HJp HBk
      have HQN := Lib.hid hqn
      clear hqn
      generalize wr.drewN nq = w4 at *
      gi_wp2
      refine hRd.mono ?_
      rintro e W3 (⟨rfl, hJ3, hk3⟩ | ⟨rfl, hJx3⟩)
      · have HB5 : Hid (Blk W3 Bs [.slice (some ⟨g, 0, none⟩) n cap] 85 ∧ Blk W3 Bn [.int .i64 16] 3) := Lib.hid ⟨(hk3.2 Bs (by simp)).trans HB4.out.1, (hk3.2 Bn (by simp)).trans HB4.out.2⟩
        have HJ3 := Lib.hid hJ3
        have c2 := HB5.out.2.cell 0 rfl
        clear hk3 hJ3 hRd
        gi_wp2
        gi_roundg (n + 16 - (p + 16))
        all_goals first
          | omega
          | exact ⟨q + 1, p + 16, _, HP2, HPS, by omega, rfl, by first | rfl | go_num, HJ3, HB5⟩
      · have HJx3 := Lib.hid hJx3
        clear hJx3 hRd
        gi_wp2
        refine bodyPost_ret (results_none rfl _ _ _) rfl ?_
        exact ⟨⟨_, rfl⟩, .inr ⟨_, by rw [HPS.out]; exact range_pre HQN.out, HJx3.out⟩⟩
    · have hcz : ¬ (p : Int) < (n : Int) := by omega
      have HQE : Hid (q = (n + 15) / 16) := Lib.hid (by have := HP.out; omega)
      gi_wp2
      go_end0
      exact ⟨⟨_, rfl⟩, .inl ⟨pre, by have := HPR.out; rw [HQE.out] at this; simpa using this, HJp.out⟩⟩
end Go.Proofs.YtigjingielnaoaaDoor
namespace Go.Proofs.YtigjingielnaoaaDoor
set_option linter.unusedVariables false
set_option linter.unusedSimpArgs false
set_option linter.unusedSectionVars false
open Go.RowKit

def noDefers (ops : Array Oper) : Bool := ops.all fun o => match o.op with | .defer _ => false | _ => true
theorem noDefers_spec {ops : Array Oper} (h : noDefers ops = true) {i : Nat} {o : Oper} (hi : ops[i]? = some o) : ∀ c, o.op ≠ .defer c := by
  intro c e
  unfold noDefers at h
  rw [Array.all_eq_true] at h
  obtain ⟨hl, hg⟩ := Array.getElem?_eq_some_iff.1 hi
  have := h i hl
  rw [hg, e] at this
  cases this
theorem rowsIn_of {n l : Nat} {P : Program} {row : String} {args : Array Value} {w : World} {R : Value → World → Prop} (h : Rows P row args w R) : RowsIn (Fence.wide.inRound l) n P row args w R := by
  intro c cs _
  obtain ⟨v, w', hr, hs⟩ := h c cs
  refine ⟨v, w', hr, ?_⟩
  rw [fenced_inRound]
  exact stepsIn_wide.2 hs
theorem opIn_of {n l : Nat} {P : Program} {o : Oper} {a : Act} {w : World} {K : Act → World → Prop} {Q : Exit → Act → World → Prop} (hd : ∀ c, o.op ≠ .defer c) (h : o.wp P a w K Q) : o.wpIn (Fence.wide.inRound l) n P a w K Q := by
  refine ⟨fun _ _ => trivial, ?_⟩
  rw [Oper.semAt_eq _ _ _ hd]
  unfold Oper.wp at h
  generalize (execOp a.eval o).run P w = r at h ⊢
  cases r with
  | ok x w' =>
    cases x with
    | value v => exact h
    | skip => exact h
    | defer d => exact h
    | enter f args => exact ⟨fun e => by simp [Fence.inRound, Fence.wide] at e, CallsIn.inRound l ((callsIn_wide.2 h).mono fun e w'' he => by cases e <;> exact he)⟩
    | row r args => exact ⟨fun e => by simp [Fence.inRound, Fence.wide] at e, rowsIn_of h⟩
    | _ => exact h.elim
  | halt x w' => cases x <;> exact h
theorem wpOpIn_of {n l : Nat} {P : Program} {ops : Array Oper} {Q : Exit → Act → World → Prop} (hno : ¬ LetsOut Q) (hd : noDefers ops = true) {i : Nat} {K : Act → World → Prop} {a : Act} {w : World} (h : wpOp P ops Q i K a w) : wpOpIn (Fence.wide.inRound l) n P ops Q i K a w := by
  unfold wpOp at h
  unfold wpOpIn
  cases hi : ops[i]? with
  | none => rw [hi] at h; exact h
  | some o =>
    rw [hi] at h
    simp only at h ⊢
    by_cases hw : Region.wanted o (yielded ops a.tmps) = true
    · rw [if_pos hw] at h ⊢
      rcases h with h | h
      · exact opIn_of (noDefers_spec hd hi) h
      · exact absurd h.2 hno
    · rw [if_neg hw] at h ⊢
      exact ⟨fun _ _ => trivial, h⟩
theorem wpAnyIn_of {n l : Nat} {P : Program} {md : Region.Mode} {ops : Array Oper} {Q : Exit → Act → World → Prop} (hno : ¬ LetsOut Q) (hd : noDefers ops = true) : ∀ (fuel : Nat) (listed : Array Bool) (a : Act) (w : World), wpAny P md ops Q fuel listed a w → wpAnyIn (Fence.wide.inRound l) n P md ops Q fuel listed a w
  | 0, _, _, _, h => h
  | fuel + 1, listed, a, w, h => ⟨h.1, fun i hi => wpOpIn_mono (fun a' w' h' => wpAnyIn_of hno hd fuel _ a' w' h') (wpOpIn_of hno hd (h.2 i hi))⟩
theorem opIn_calm {n l : Nat} {P : Program} {o : Oper} {a : Act} {w : World} {K K' : Act → World → Prop} {Q : Exit → Act → World → Prop} (hd : ∀ c, o.op ≠ .defer c) (h : o.wp P a w K (Exit.then K' fun _ _ _ => False)) : o.wpIn (Fence.wide.inRound l) n P a w K Q := by
  refine ⟨fun _ _ => trivial, ?_⟩
  rw [Oper.semAt_eq _ _ _ hd]
  unfold Oper.wp at h
  generalize (execOp a.eval o).run P w = r at h ⊢
  have hno : ¬ LetsOut (Exit.then K' fun _ _ _ => False) := by rintro ⟨a, w, h⟩; exact h
  cases r with
  | ok x w' =>
    cases x with
    | value v => exact h
    | skip => exact h
    | defer d => exact h
    | enter f args =>
      exact ⟨fun e => by simp [Fence.inRound, Fence.wide] at e, CallsIn.inRound l ((callsIn_wide.2 h).mono fun e w'' he => by
        cases e with
        | returned v => exact he
        | panicked ch => exact False.elim he
        | outgrown => exact absurd he hno)⟩
    | row r args => exact ⟨fun e => by simp [Fence.inRound, Fence.wide] at e, rowsIn_of h⟩
    | _ => exact h.elim
  | halt x w' => cases x <;> exact False.elim h
theorem listIn_calm {n l : Nat} {P : Program} {ops : Array Oper} {Q : Exit → Act → World → Prop} {K' : Act → World → Prop} (hK : ∀ a w, K' a w → Q .normal a w) : ∀ (os : List Oper), (os.all fun o => match o.op with | .defer _ => false | _ => true) = true → ∀ (a : Act) (w : World), wpList P ops (Exit.then K' fun _ _ _ => False) os a w → wpListIn (Fence.wide.inRound l) n P ops Q os a w
  | [], _, _, _, h => hK _ _ h
  | o :: os, hd, a, w, h => by
    rw [List.all_cons, Bool.and_eq_true] at hd
    unfold wpList at h
    unfold wpListIn
    by_cases hw : Region.wanted o (yielded ops a.tmps) = true
    · rw [if_pos hw] at h ⊢
      rcases h with h | h
      · exact Oper.wpIn_mono (fun a' w' h' => listIn_calm hK os hd.2 a' w' h') (opIn_calm (fun c e => by rw [e] at hd; cases hd.1) h)
      · obtain ⟨_, a, w, h⟩ := h; exact h.elim
    · rw [if_neg hw] at h ⊢
      exact ⟨fun _ _ => trivial, listIn_calm hK os hd.2 _ _ h⟩
/-- The rest of a region, in a round: as in a plain walk, where it does not panic. -/
theorem listIn_of {n l : Nat} {P : Program} {ops : Array Oper} {Q : Exit → Act → World → Prop} (os : List Oper) (a : Act) (w : World) (hd : (os.all fun o => match o.op with | .defer _ => false | _ => true) = true)
    (h : ∀ K : Act → World → Prop, (∀ a w, Q .normal a w → K a w) → wpList P ops (Exit.then K fun _ _ _ => False) os a w) : wpListIn (Fence.wide.inRound l) n P ops Q os a w :=
  listIn_calm (K' := fun a w => Q .normal a w) (fun _ _ h => h) os hd a w (h _ fun _ _ h => h)
/-- **A region that draws its order, in a round: as in a plain walk, where it does not panic.** -/
theorem regionIn_held {n l id : Nat} {P : Program} {ops : Array Oper} {Q : Exit → Act → World → Prop} {S : World → Prop} {a : Act} {w : World} (hm : P.follows .mixedOrders = true) (hd : noDefers ops = true) (hS : S w.drew)
    (h : S w.drew → ∀ K : Act → World → Prop, (∀ a w, Q .normal a w → K a w) → wpAnyH P .any ops (Exit.then K fun _ _ _ => False) S ops.size (Array.replicate ops.size false) a w.drew) : (Code.region id ops true).wpIn (Fence.wide.inRound l) n P Q a w := by
  refine wpIn_mono (wpIn_region_any hm (wpAnyIn_of ?_ hd _ _ _ _ (wpAny_of_held _ _ _ _ (h hS (fun a w => Q .normal a w) fun _ _ h => h)))) ?_
  · rintro ⟨a, w, h⟩
    exact h
  · intro e a w h
    cases e <;> first | exact h | exact h.elim
end Go.Proofs.YtigjingielnaoaaDoor
namespace Go.Proofs.YtigjingielnaoaaDoor
set_option linter.unusedVariables false
set_option linter.unusedSimpArgs false
set_option linter.unusedSectionVars false
open Go.RowKit
set_option linter.unusedVariables false
set_option linter.unusedSimpArgs false

theorem TextsAt.drewN {w : World} {v : Value} {l : List (List Nat)} (h : TextsAt w v l) (n : Nat) : TextsAt (w.drewN n) v l := h.upd ((Upd.refl [] w).drewN n)
end Go.Proofs.YtigjingielnaoaaDoor
