/- Packages dos and swingleref12: the parts of a time: walks. -/
import Derived.Test.YtibmhadnfggmlaaDoorDosA
namespace Go.Proofs.YtibmhadnfggmlaaDoor
open Go.RowKit
set_option linter.unusedVariables false

def partsL (t : Nat) : List Value := [.int .i64 (1980 + (t : Int) / 33554432 % 128), .int .i64 ((t : Int) / 2097152 % 16), .int .i64 ((t : Int) / 65536 % 32), .int .i64 ((t : Int) / 2048 % 32), .int .i64 ((t : Int) / 32 % 64), .int .i64 (2 * ((t : Int) % 32))]
theorem infoDT : (Tryd.prog.info? 131).map (·.size) = some 6 := by kernel_rfl
theorem infoRT : (Tryd.prog.info? 85).map (·.size) = some 6 := by kernel_rfl

set_option maxRecDepth 100000 in
set_option maxHeartbeats 1600000 in
theorem dsplit_any (t : Nat) (w : World) (ht : t < 4294967296) :
    Calls Tryd.prog 109 #[.int .u32 (t : Nat)] w fun e w' => e = .returned (.agg (partsL t).toArray) ∧ Upd [] w w' := by
  go_enter Tryd.func109, Tryd.ntmps109
  go_upto_region 2 with fail
  have hT := (Blk.new w [.int .u32 (t : Nat)] 30).alloc (Obj.cells #[.int .i64 0, .int .i64 0, .int .i64 0, .int .i64 0, .int .i64 0, .int .i64 0] 131)
  have hR := Blk.new (w.alloc (Obj.cells #[.int .u32 (t : Nat)] 30)) [.int .i64 0, .int .i64 0, .int .i64 0, .int .i64 0, .int .i64 0, .int .i64 0] 131
  have hU : Upd [] w ((w.alloc (Obj.cells #[.int .u32 (t : Nat)] 30)).alloc (Obj.cells #[.int .i64 0, .int .i64 0, .int .i64 0, .int .i64 0, .int .i64 0, .int .i64 0] 131)) := ((Upd.refl [] w).alloc _).alloc _
  rw [World.size_alloc] at hR
  change Code.wp _ _ _ _ ((w.alloc (Obj.cells #[.int .u32 (t : Nat)] 30)).alloc (Obj.cells #[.int .i64 0, .int .i64 0, .int .i64 0, .int .i64 0, .int .i64 0, .int .i64 0] 131))
  generalize (w.alloc (Obj.cells #[.int .u32 (t : Nat)] 30)).alloc (Obj.cells #[.int .i64 0, .int .i64 0, .int .i64 0, .int .i64 0, .int .i64 0, .int .i64 0] 131) = w2 at *
  have HC := Lib.hid (hT.cell 0 rfl)
  have HR := Lib.hid hR
  clear hT hR
  go_wp2_with fail
  refine (dtake_any t 25 7 w.heap.size _ (by exact HC.out) ht (by omega) (by omega)).mono ?_
  rintro e w3 ⟨rfl, k0, rfl⟩
  go_wp2_with fail
  refine (dtake_any t 21 4 w.heap.size _ (by exact HC.out) ht (by omega) (by omega)).mono ?_
  rintro e w3 ⟨rfl, k1, rfl⟩
  go_wp2_with fail
  refine (dtake_any t 16 5 w.heap.size _ (by exact HC.out) ht (by omega) (by omega)).mono ?_
  rintro e w3 ⟨rfl, k2, rfl⟩
  go_wp2_with fail
  refine (dtake_any t 11 5 w.heap.size _ (by exact HC.out) ht (by omega) (by omega)).mono ?_
  rintro e w3 ⟨rfl, k3, rfl⟩
  go_wp2_with fail
  refine (dtake_any t 5 6 w.heap.size _ (by exact HC.out) ht (by omega) (by omega)).mono ?_
  rintro e w3 ⟨rfl, k4, rfl⟩
  go_wp2_with fail
  refine (dtake_any t 0 5 w.heap.size _ (by exact HC.out) ht (by omega) (by omega)).mono ?_
  rintro e w3 ⟨rfl, k5, rfl⟩
  have r0 := HR.out.cell 0 rfl
  have f0 := HR.out.frz 0
  have r1 := HR.out.cell 1 rfl
  have f1 := HR.out.frz 1
  have r2 := HR.out.cell 2 rfl
  have f2 := HR.out.frz 2
  have r3 := HR.out.cell 3 rfl
  have f3 := HR.out.frz 3
  have r4 := HR.out.cell 4 rfl
  have f4 := HR.out.frz 4
  have r5 := HR.out.cell 5 rfl
  have f5 := HR.out.frz 5
  go_wp2
  have hB := (((((((HR.out.drewN (k0 + k1 + k2 + k3 + k4 + k5)).set 0 (.int .i64 (1980 + (t : Int) / 33554432 % 128))).set 1 (.int .i64 ((t : Int) / 2097152 % 16))).set 2 (.int .i64 ((t : Int) / 65536 % 32))).set 3 (.int .i64 ((t : Int) / 2048 % 32))).set 4 (.int .i64 ((t : Int) / 32 % 64))).set 5 (.int .i64 (2 * ((t : Int) % 32))))
  refine bodyPost_ret (v := .agg (partsL t).toArray) (results_cell_row rfl _ _ (w.heap.size + 1) 131 (partsL t).toArray (0, 0) _ (by simp) (hB) Tryd.underlying131 rfl (by rw [infoDT]; rfl)) (by simp) ⟨rfl, ?_⟩
  exact (((((((hU.drewN _).setCell (.inr (by simp)) _).setCell (.inr (by simp)) _).setCell (.inr (by simp)) _).setCell (.inr (by simp)) _).setCell (.inr (by simp)) _).setCell (.inr (by simp)) _)
theorem din_any (a b : Int) (w : World) : Calls Tryd.prog 140 #[.int .i64 a, .int .i64 b] w fun e w' => e = .returned (.bool (decide (0 ≤ a) && decide (a < b))) ∧ w = w' := by
  by_cases h : 0 ≤ a
  · have t1 : decide (0 ≤ a) = true := decide_eq_true h
    go_enter Tryd.func140, Tryd.ntmps140
    go_wp2
    go_returns
    exact ⟨by simp [t1], rfl⟩
  · have t1 : decide (0 ≤ a) = false := decide_eq_false h
    go_enter Tryd.func140, Tryd.ntmps140
    go_wp2
    go_returns
    exact ⟨by simp [t1], rfl⟩
end Go.Proofs.YtibmhadnfggmlaaDoor
