/- Packages dos and swingleref12: the parts of a time: walks. -/
import Derived.Test.YtigjingielnaoaaDoorQAA
import Derived.Deep.RegionHeld3
import Derived.RowKit
namespace Go.Proofs.YtigjingielnaoaaDoor
set_option linter.unusedVariables false
set_option linter.unusedSimpArgs false
set_option linter.unusedSectionVars false
open Go.RowKit
set_option linter.unusedVariables false

def partsL (t : Nat) : List Value := [.int .i64 (1980 + (t : Int) / 33554432 % 128), .int .i64 ((t : Int) / 2097152 % 16), .int .i64 ((t : Int) / 65536 % 32), .int .i64 ((t : Int) / 2048 % 32), .int .i64 ((t : Int) / 32 % 64), .int .i64 (2 * ((t : Int) % 32))]
theorem infoDT : (Tryd.prog.info? 92).map (·.size) = some 6 := by kernel_rfl
set_option maxRecDepth 100000 in
set_option maxHeartbeats 1600000 in
theorem dsplit_any (t : Nat) (w : World) (ht : t < 4294967296) :
    Calls Tryd.prog 99 #[.int .u32 (t : Nat)] w fun e w' => e = .returned (.agg (partsL t).toArray) ∧ Upd [] w w' := by
  go_enter Tryd.func99, Tryd.ntmps99
  go_upto_region 2 with fail
  have hT := (Blk.new w [.int .u32 (t : Nat)] 22).alloc (Obj.cells #[.int .i64 0, .int .i64 0, .int .i64 0, .int .i64 0, .int .i64 0, .int .i64 0] 92)
  have hR := Blk.new (w.alloc (Obj.cells #[.int .u32 (t : Nat)] 22)) [.int .i64 0, .int .i64 0, .int .i64 0, .int .i64 0, .int .i64 0, .int .i64 0] 92
  have hU : Upd [] w ((w.alloc (Obj.cells #[.int .u32 (t : Nat)] 22)).alloc (Obj.cells #[.int .i64 0, .int .i64 0, .int .i64 0, .int .i64 0, .int .i64 0, .int .i64 0] 92)) := ((Upd.refl [] w).alloc _).alloc _
  rw [World.size_alloc] at hR
  change Code.wp _ _ _ _ ((w.alloc (Obj.cells #[.int .u32 (t : Nat)] 22)).alloc (Obj.cells #[.int .i64 0, .int .i64 0, .int .i64 0, .int .i64 0, .int .i64 0, .int .i64 0] 92))
  generalize (w.alloc (Obj.cells #[.int .u32 (t : Nat)] 22)).alloc (Obj.cells #[.int .i64 0, .int .i64 0, .int .i64 0, .int .i64 0, .int .i64 0, .int .i64 0] 92) = w2 at *
  have HC := Lib.hid (hT.cell 0 rfl)
  have HR := Lib.hid hR
  clear hT hR
  go_wp2_with fail
  refine (dtake_any t 25 7 w.heap.size _ (by exact HC.out) ht (by omega) (by omega)).mono ?_
  rintro e w3 ⟨rfl, k0, rfl⟩
  go_wp2_with fail
  refine (dtake_any t 21 4 w.heap.size _ (by exact HC.out) ht (by omega) (by omega)).mono ?_
  rintro e w3 ⟨rfl, k1, rfl⟩
  go_wp2_with fail
  refine (dtake_any t 16 5 w.heap.size _ (by exact HC.out) ht (by omega) (by omega)).mono ?_
  rintro e w3 ⟨rfl, k2, rfl⟩
  go_wp2_with fail
  refine (dtake_any t 11 5 w.heap.size _ (by exact HC.out) ht (by omega) (by omega)).mono ?_
  rintro e w3 ⟨rfl, k3, rfl⟩
  go_wp2_with fail
  refine (dtake_any t 5 6 w.heap.size _ (by exact HC.out) ht (by omega) (by omega)).mono ?_
  rintro e w3 ⟨rfl, k4, rfl⟩
  go_wp2_with fail
  refine (dtake_any t 0 5 w.heap.size _ (by exact HC.out) ht (by omega) (by omega)).mono ?_
  rintro e w3 ⟨rfl, k5, rfl⟩
  have r0 := HR.out.cell 0 rfl
  have f0 := HR.out.frz 0
  have r1 := HR.out.cell 1 rfl
  have f1 := HR.out.frz 1
  have r2 := HR.out.cell 2 rfl
  have f2 := HR.out.frz 2
  have r3 := HR.out.cell 3 rfl
  have f3 := HR.out.frz 3
  have r4 := HR.out.cell 4 rfl
  have f4 := HR.out.frz 4
  have r5 := HR.out.cell 5 rfl
  have f5 := HR.out.frz 5
  go_wp2
  have hB := (((((((HR.out.drewN (k0 + k1 + k2 + k3 + k4 + k5)).set 0 (.int .i64 (1980 + (t : Int) / 33554432 % 128))).set 1 (.int .i64 ((t : Int) / 2097152 % 16))).set 2 (.int .i64 ((t : Int) / 65536 % 32))).set 3 (.int .i64 ((t : Int) / 2048 % 32))).set 4 (.int .i64 ((t : Int) / 32 % 64))).set 5 (.int .i64 (2 * ((t : Int) % 32))))
  refine bodyPost_ret (v := .agg (partsL t).toArray) (results_cell_row rfl _ _ (w.heap.size + 1) 92 (partsL t).toArray (0, 0) _ (by simp) (hB) Tryd.underlying92 rfl (by rw [infoDT]; rfl)) (by simp) ⟨rfl, ?_⟩
  exact (((((((hU.drewN _).setCell (.inr (by simp)) _).setCell (.inr (by simp)) _).setCell (.inr (by simp)) _).setCell (.inr (by simp)) _).setCell (.inr (by simp)) _).setCell (.inr (by simp)) _)
theorem din_any (a b : Int) (w : World) : Calls Tryd.prog 113 #[.int .i64 a, .int .i64 b] w fun e w' => e = .returned (.bool (decide (0 ≤ a) && decide (a < b))) ∧ w = w' := by
  by_cases h : 0 ≤ a
  · have t1 : decide (0 ≤ a) = true := decide_eq_true h
    go_enter Tryd.func113, Tryd.ntmps113
    go_wp2
    go_returns
    exact ⟨by simp [t1], rfl⟩
  · have t1 : decide (0 ≤ a) = false := decide_eq_false h
    go_enter Tryd.func113, Tryd.ntmps113
    go_wp2
    go_returns
    exact ⟨by simp [t1], rfl⟩
end Go.Proofs.YtigjingielnaoaaDoor
namespace Go.Proofs.YtigjingielnaoaaDoor
set_option linter.unusedVariables false
set_option linter.unusedSimpArgs false
set_option linter.unusedSectionVars false
open Go.RowKit
set_option linter.unusedVariables false

def leapB (y : Int) : Bool := decide (y % 4 = 0) && decide (y ≠ 2100)
def daysN (y m : Int) : Int := if m < 1 ∨ 12 < m then 0 else if m = 2 then (if leapB y = true then 29 else 28) else if m = 4 ∨ m = 6 ∨ m = 9 ∨ m = 11 then 30 else 31
theorem dleap_any (y : Int) (w : World) (hy : 1980 ≤ y) (hy2 : y ≤ 2107) : Calls Tryd.prog 130 #[.int .i64 y] w fun e w' => e = .returned (.bool (leapB y)) ∧ w = w' := by
  have h0 : (0 : Int) ≤ y := by omega
  by_cases h : y % 4 = 0
  · have t1 : (y % 4 == 0) = true := by simp [h]
    have HB := Lib.hid (show leapB y = (y != 2100) from by unfold leapB; rw [decide_eq_true h]; by_cases h2 : y = 2100 <;> simp [h2])
    clear h
    go_enter Tryd.func130, Tryd.ntmps130
    go_wp2
    go_returns
    exact ⟨by rw [HB.out]; rfl, rfl⟩
  · have t1 : (y % 4 == 0) = false := by simp [h]
    have HB := Lib.hid (show leapB y = false from by unfold leapB; rw [decide_eq_false h]; rfl)
    clear h
    go_enter Tryd.func130, Tryd.ntmps130
    go_wp2
    go_returns
    exact ⟨by rw [HB.out]; rfl, rfl⟩
set_option maxRecDepth 100000 in
set_option maxHeartbeats 6400000 in
theorem ddays_any (y m : Int) (w : World) (hy : 1980 ≤ y) (hy2 : y ≤ 2107) (hm0 : 0 ≤ m) (hm : m ≤ 15) : Calls Tryd.prog 114 #[.int .i64 y, .int .i64 m] w fun e w' => e = .returned (.int .i64 (daysN y m)) ∧ Upd [] w w' := by
  have t1 : decide (y < 1980) = false := decide_eq_false (by omega)
  have t2 : decide (2107 < y) = false := decide_eq_false (by omega)
  have HL := Lib.hid (fun w' => dleap_any y w' hy hy2)
  by_cases h2 : m = 2
  · subst h2
    cases hb : leapB y with
    | true =>
      have HB := Lib.hid (show daysN y 2 = 29 from by unfold daysN; rw [hb]; rfl)
      rw [hb] at HL
      go_enter Tryd.func114, Tryd.ntmps114
      go_wp2_with fail
      refine (HL.out _).mono ?_
      rintro e w1 ⟨rfl, rfl⟩
      go_wp2
      go_returns
      exact ⟨by rw [HB.out]; rfl, (Upd.refl _ _).alloc _⟩
    | false =>
      have HB := Lib.hid (show daysN y 2 = 28 from by unfold daysN; rw [hb]; rfl)
      rw [hb] at HL
      go_enter Tryd.func114, Tryd.ntmps114
      go_wp2_with fail
      refine (HL.out _).mono ?_
      rintro e w1 ⟨rfl, rfl⟩
      go_wp2
      go_returns
      exact ⟨by rw [HB.out]; rfl, (Upd.refl _ _).alloc _⟩
  · clear HL
    rcases (by omega : m = 0 ∨ m = 1 ∨ m = 2 ∨ m = 3 ∨ m = 4 ∨ m = 5 ∨ m = 6 ∨ m = 7 ∨ m = 8 ∨ m = 9 ∨ m = 10 ∨ m = 11 ∨ m = 12 ∨ m = 13 ∨ m = 14 ∨ m = 15) with rfl | rfl | rfl | rfl | rfl | rfl | rfl | rfl | rfl | rfl | rfl | rfl | rfl | rfl | rfl | rfl
    all_goals first
      | (exact absurd rfl h2)
      | (clear h2
         go_enter Tryd.func114, Tryd.ntmps114
         go_wp2
         go_returns
         first | exact ⟨rfl, (Upd.refl _ _).alloc _⟩ | exact ⟨rfl, .refl _ _⟩)
end Go.Proofs.YtigjingielnaoaaDoor
namespace Go.Proofs.YtigjingielnaoaaDoor
set_option linter.unusedVariables false
set_option linter.unusedSimpArgs false
set_option linter.unusedSectionVars false


theorem heldTake {P : Program} {md : Region.Mode} {ops : Array Oper} {Q : Exit → Act → World → Prop} {S : World → Prop} {i : Nat} {oi : Oper} {d : Option Tmp} {v : Value} {fuel : Nat} {listed : Array Bool} {a : Act} {w : World} (hi : ops[i]? = some oi) (hd : oi.dst = d)
    (hs : Region.noSelect ops = true) (hf : Region.free md ops listed i = true) (hr : (Region.ready md ops listed).contains i = true)
    (hQ : ∀ c a w, Q (.panic c) (a.put d v) w → Q (.panic c) a w) (hw : Region.wanted oi (yielded ops a.tmps) = true) (hy : ∀ w, S w → (execOp a.eval oi).run P w = .ok (.value v) w) (hS : S w)
    (h : wpAnyH P md ops Q S fuel (listed.setIfInBounds i true) (a.put d v) w) : wpAnyH P md ops Q S (fuel + 1) listed a w := by
  subst hd
  exact wpAnyH_take hi hs hf hr hQ (Or.inl ⟨hw, hy⟩) hS h
theorem heldSkip {P : Program} {md : Region.Mode} {ops : Array Oper} {Q : Exit → Act → World → Prop} {S : World → Prop} {i : Nat} {oi : Oper} {d : Option Tmp} {fuel : Nat} {listed : Array Bool} {a : Act} {w : World} (hi : ops[i]? = some oi) (hd : oi.dst = d)
    (hs : Region.noSelect ops = true) (hf : Region.free md ops listed i = true) (hr : (Region.ready md ops listed).contains i = true)
    (hQ : ∀ c a w, Q (.panic c) (a.put d undef) w → Q (.panic c) a w) (hw : Region.wanted oi (yielded ops a.tmps) = false) (hS : S w)
    (h : wpAnyH P md ops Q S fuel (listed.setIfInBounds i true) (a.put d undef) w) : wpAnyH P md ops Q S (fuel + 1) listed a w := by
  subst hd
  exact wpAnyH_take hi hs hf hr hQ (Or.inr ⟨hw, rfl⟩) hS h
end Go.Proofs.YtigjingielnaoaaDoor
namespace Go.Proofs.YtigjingielnaoaaDoor
set_option linter.unusedVariables false
set_option linter.unusedSimpArgs false
set_option linter.unusedSectionVars false
open Go.RowKit

theorem hdT {P : Program} {md : Region.Mode} {ops : Array Oper} {Q : Exit → Act → World → Prop} {S : World → Prop} {oi : Oper} {v : Value} {fuel : Nat} {listed : Array Bool} {a : Act} {w : World} {G : Prop} (i : Nat) (d : Option Tmp) (h : G)
    (hi : ops[i]? = some oi := by rfl) (hd : oi.dst = d := by rfl)
    (hy : ∀ w, S w → (execOp a.eval oi).run P w = .ok (.value v) w := by intro w hSw; (try dsimp only at hSw); go_simp; try with_reducible rfl)
    (hs : Region.noSelect ops = true := by kernel_rfl) (hf : Region.free md ops listed i = true := by kernel_rfl) (hr : (Region.ready md ops listed).contains i = true := by kernel_rfl)
    (hQ : ∀ c a w, Q (.panic c) (a.put d v) w → Q (.panic c) a w := by exact fun _ _ _ h => h) (hw : Region.wanted oi (yielded ops a.tmps) = true := by rfl) (hS : S w := by assumption)
    (hn : wpAnyH P md ops Q S fuel (listed.setIfInBounds i true) (a.put d v) w = G := by (try simp only [Act.put, List.setIfInBounds_toArray, List.set_cons_zero, List.set_cons_succ]); exact rfl) : wpAnyH P md ops Q S (fuel + 1) listed a w :=
  heldTake hi hd hs hf hr hQ hw hy hS (hn ▸ h)
theorem hdK {P : Program} {md : Region.Mode} {ops : Array Oper} {Q : Exit → Act → World → Prop} {S : World → Prop} {oi : Oper} {fuel : Nat} {listed : Array Bool} {a : Act} {w : World} {G : Prop} (i : Nat) (d : Option Tmp) (h : G)
    (hi : ops[i]? = some oi := by rfl) (hd : oi.dst = d := by rfl)
    (hs : Region.noSelect ops = true := by kernel_rfl) (hf : Region.free md ops listed i = true := by kernel_rfl) (hr : (Region.ready md ops listed).contains i = true := by kernel_rfl)
    (hQ : ∀ c a w, Q (.panic c) (a.put d undef) w → Q (.panic c) a w := by exact fun _ _ _ h => h) (hw : Region.wanted oi (yielded ops a.tmps) = false := by rfl) (hS : S w := by assumption)
    (hn : wpAnyH P md ops Q S fuel (listed.setIfInBounds i true) (a.put d undef) w = G := by (try simp only [Act.put, List.setIfInBounds_toArray, List.set_cons_zero, List.set_cons_succ]); exact rfl) : wpAnyH P md ops Q S (fuel + 1) listed a w :=
  heldSkip hi hd hs hf hr hQ hw hS (hn ▸ h)
theorem hdN {X G : Prop} (h : G) (hn : X = G := by (try simp only [Act.put, List.setIfInBounds_toArray, List.set_cons_zero, List.set_cons_succ]); exact rfl) : X := hn ▸ h
theorem hdO {P : Program} {md : Region.Mode} {ops : Array Oper} {Q : Exit → Act → World → Prop} {S : World → Prop} {o : Oper} {fuel : Nat} {listed : Array Bool} {a : Act} {w : World} (i : Nat)
    (h : ∀ K' : Act → World → Prop, Shut (∀ a w, S w → (S w → wpAnyH P md ops Q S fuel (listed.setIfInBounds i true) a w) → K' a w) → if Region.wanted o (yielded ops a.tmps) = true then Oper.wp P o a w K' Q else K' (a.put o.dst undef) w)
    (ho : ops[i]? = some o := by rfl) (hr : Region.ready md ops listed = [i] := by kernel_rfl) : wpAnyH P md ops Q S (fuel + 1) listed a w :=
  wpAnyH_ready hr (by simp) (AllReadyH.cons ho h AllReadyH.nil)
end Go.Proofs.YtigjingielnaoaaDoor
