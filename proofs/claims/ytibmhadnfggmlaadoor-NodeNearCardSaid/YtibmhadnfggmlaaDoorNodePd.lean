/- Packages node and swingleref14: Print: walks. -/
import Derived.Test.YtibmhadnfggmlaaDoorNodeRd
import Derived.Test.YtibmhadnfggmlaaDoorEqlP
namespace Go.Proofs.YtibmhadnfggmlaaDoor
set_option linter.unusedVariables false
set_option linter.unusedSimpArgs false
set_option linter.unusedSectionVars false
open Go.RowKit
set_option linter.unusedVariables false

def printV (k m : Int) (t : Nat) (D : ByteArray) : Value := .agg #[.int .i64 k, .int .i64 m, .int .u32 (t : Nat), .int .i64 (D.size : Nat), .int .u32 ((if k = 1 then crcOf D else 0 : Nat) : Int)]
set_option maxRecDepth 100000 in
set_option maxHeartbeats 3200000 in
theorem print_any (k m : Int) (t : Nat) (D : ByteArray) (w : World) (hD : D.size ≤ 9223372036854775807) : Calls Tryd.prog 28 #[nodeV k m t D] w fun e w' => e = .returned (printV k m t D) ∧ Upd [] w w' := by
  have HO := Lib.hid (fun w' => sumOf_any D w' hD)
  have HP := Lib.hid (show printV k m t D = .agg #[.int .i64 k, .int .i64 m, .int .u32 (t : Nat), .int .i64 (D.size : Nat), .int .u32 ((if k = 1 then crcOf D else 0 : Nat) : Int)] from rfl)
  unfold nodeV
  go_enter Tryd.func28, Tryd.ntmps28
  go_upto_region 2 with fail
  have hN := ((Blk.new w [.int .i64 k, .int .i64 m, .int .u32 (t : Nat), .string D] 42).alloc (.cells #[.int .i64 0, .int .i64 0, .int .u32 0, .int .i64 0, .int .u32 0] 32)).alloc (.cells #[.int .i64 k, .int .i64 m, .int .u32 (t : Nat), .int .i64 (D.size : Nat), .int .u32 0] 32)
  have hR := (Blk.new (w.alloc (.cells #[.int .i64 k, .int .i64 m, .int .u32 (t : Nat), .string D] 42)) [.int .i64 0, .int .i64 0, .int .u32 0, .int .i64 0, .int .u32 0] 32).alloc (.cells #[.int .i64 k, .int .i64 m, .int .u32 (t : Nat), .int .i64 (D.size : Nat), .int .u32 0] 32)
  have hQ := Blk.new ((w.alloc (.cells #[.int .i64 k, .int .i64 m, .int .u32 (t : Nat), .string D] 42)).alloc (.cells #[.int .i64 0, .int .i64 0, .int .u32 0, .int .i64 0, .int .u32 0] 32)) [.int .i64 k, .int .i64 m, .int .u32 (t : Nat), .int .i64 (D.size : Nat), .int .u32 0] 32
  have hU : Upd [] w (((w.alloc (.cells #[.int .i64 k, .int .i64 m, .int .u32 (t : Nat), .string D] 42)).alloc (.cells #[.int .i64 0, .int .i64 0, .int .u32 0, .int .i64 0, .int .u32 0] 32)).alloc (.cells #[.int .i64 k, .int .i64 m, .int .u32 (t : Nat), .int .i64 (D.size : Nat), .int .u32 0] 32)) := (((Upd.refl [] w).alloc _).alloc _).alloc _
  rw [World.size_alloc] at hR
  rw [World.size_alloc, World.size_alloc] at hQ
  change Code.wp _ _ _ _ (((w.alloc (.cells #[.int .i64 k, .int .i64 m, .int .u32 (t : Nat), .string D] 42)).alloc (.cells #[.int .i64 0, .int .i64 0, .int .u32 0, .int .i64 0, .int .u32 0] 32)).alloc (.cells #[.int .i64 k, .int .i64 m, .int .u32 (t : Nat), .int .i64 (D.size : Nat), .int .u32 0] 32))
  generalize ((w.alloc (.cells #[.int .i64 k, .int .i64 m, .int .u32 (t : Nat), .string D] 42)).alloc (.cells #[.int .i64 0, .int .i64 0, .int .u32 0, .int .i64 0, .int .u32 0] 32)).alloc (.cells #[.int .i64 k, .int .i64 m, .int .u32 (t : Nat), .int .i64 (D.size : Nat), .int .u32 0] 32) = w3 at *
  obtain ⟨b, hb⟩ : ∃ b, w.heap.size = b := ⟨_, rfl⟩
  rw [hb] at hN hR hQ ⊢
  have HB := Lib.hid (show w.heap.size ≤ b by omega)
  clear hb
  have c0 := hN.cell 0 rfl
  by_cases hk : k = 1
  · have t1 : (k == 1) = true := by simp [hk]
    have HK := Lib.hid (show printV k m t D = .agg #[.int .i64 k, .int .i64 m, .int .u32 (t : Nat), .int .i64 (D.size : Nat), .int .u32 (crcOf D : Nat)] from by rw [HP.out, if_pos hk])
    have c3 := hN.cell 3 rfl
    clear hk
    go_wp2_with fail
    refine (HO.out _).mono ?_
    rintro e w4 ⟨rfl, hU4⟩
    have hR4 := hR.upd hU4 (by simp)
    have hQ4 := hQ.upd hU4 (by simp)
    have hU04 := hU.then hU4
    clear hN hR hQ hU hU4 c0 c3
    generalize crcOf D = X at *
    have q0 := hQ4.cell 0 rfl
    have q1 := hQ4.cell 1 rfl
    have q2 := hQ4.cell 2 rfl
    have q3 := hQ4.cell 3 rfl
    have q4 := hQ4.cell 4 rfl
    have f4 := hQ4.frz 4
    have r0 := hR4.cell 0 rfl
    have r1 := hR4.cell 1 rfl
    have r2 := hR4.cell 2 rfl
    have r3 := hR4.cell 3 rfl
    have r4 := hR4.cell 4 rfl
    have g0 := hR4.frz 0
    have g1 := hR4.frz 1
    have g2 := hR4.frz 2
    have g3 := hR4.frz 3
    have g4 := hR4.frz 4
    go_wp2
    have hE := (((((hR4.setFar (a := ⟨b + 1 + 1, 4, none⟩) (.int .u32 (X : Nat)) (by simp)).set 0 (.int .i64 k)).set 1 (.int .i64 m)).set 2 (.int .u32 (t : Nat))).set 3 (.int .i64 (D.size : Nat))).set 4 (.int .u32 (X : Nat))
    refine bodyPost_ret (results_cell_row rfl _ _ (b + 1) 32 _ (0, 0) _ (by simp) hE Tryd.underlying32 rfl (by rw [infoPr]; rfl)) (by simp) ⟨by rw [HK.out]; rfl, ?_⟩
    exact (((((hU04.setCell (.inr (by have := HB.out; simp; omega)) _).setCell (.inr (by have := HB.out; simp; omega)) _).setCell (.inr (by have := HB.out; simp; omega)) _).setCell (.inr (by have := HB.out; simp; omega)) _).setCell (.inr (by have := HB.out; simp; omega)) _).setCell (.inr (by have := HB.out; simp; omega)) _
  · have t1 : (k == 1) = false := by simp [hk]
    have HK := Lib.hid (show printV k m t D = .agg #[.int .i64 k, .int .i64 m, .int .u32 (t : Nat), .int .i64 (D.size : Nat), .int .u32 0] from by rw [HP.out, if_neg hk]; rfl)
    clear hk
    have q0 := hQ.cell 0 rfl
    have q1 := hQ.cell 1 rfl
    have q2 := hQ.cell 2 rfl
    have q3 := hQ.cell 3 rfl
    have q4 := hQ.cell 4 rfl
    have r0 := hR.cell 0 rfl
    have r1 := hR.cell 1 rfl
    have r2 := hR.cell 2 rfl
    have r3 := hR.cell 3 rfl
    have r4 := hR.cell 4 rfl
    have g0 := hR.frz 0
    have g1 := hR.frz 1
    have g2 := hR.frz 2
    have g3 := hR.frz 3
    have g4 := hR.frz 4
    go_wp2
    have hE := ((((hR.set 0 (.int .i64 k)).set 1 (.int .i64 m)).set 2 (.int .u32 (t : Nat))).set 3 (.int .i64 (D.size : Nat))).set 4 (.int .u32 0)
    refine bodyPost_ret (results_cell_row rfl _ _ (b + 1) 32 _ (0, 0) _ (by simp) hE Tryd.underlying32 rfl (by rw [infoPr]; rfl)) (by simp) ⟨by rw [HK.out]; rfl, ?_⟩
    exact ((((hU.setCell (.inr (by have := HB.out; simp; omega)) _).setCell (.inr (by have := HB.out; simp; omega)) _).setCell (.inr (by have := HB.out; simp; omega)) _).setCell (.inr (by have := HB.out; simp; omega)) _).setCell (.inr (by have := HB.out; simp; omega)) _
end Go.Proofs.YtibmhadnfggmlaaDoor
