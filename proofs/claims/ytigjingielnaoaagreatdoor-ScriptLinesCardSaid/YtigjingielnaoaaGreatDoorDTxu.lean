/- Package swingleref12: Text: its walk. -/
import Derived.Test.YtigjingielnaoaaGreatDoorDTxt
namespace Go.Proofs.YtigjingielnaoaaGreatDoor
set_option linter.unusedVariables false
set_option linter.unusedSimpArgs false
set_option linter.unusedSectionVars false
open Go.RowKit
set_option linter.unusedVariables false
set_option linter.unusedSimpArgs false

set_option maxRecDepth 100000 in
set_option maxHeartbeats 6400000 in
theorem rText_any (y mo d h mi s : Nat) (w : World) (b1 : y < 2108) (b1b : 1980 ≤ y) (b2 : mo < 16) (b3 : d < 32) (b4 : h < 32) (b5 : mi < 64) (b6 : s < 64) : Calls Tryz.prog 54 #[.agg (partsN y mo d h mi s).toArray] w fun e w' => e = .returned (.string (strOf (clockP y mo d h mi s))) ∧ Upd [] w w' := by
  unfold partsN
  have e45 : ({ data := #[45] } : ByteArray).size = 1 := rfl
  have e32 : ({ data := #[32] } : ByteArray).size = 1 := rfl
  have e58 : ({ data := #[58] } : ByteArray).size = 1 := rfl
  have HSx := Lib.hid (fun w => two_any (y / 100) w (by omega))
  have zSx : (strOf (digP (y / 100) 2)).size = 2 := by rw [size_strOf, digP_len]
  have HSy := Lib.hid (fun w => two_any (y % 100) w (by omega))
  have zSy : (strOf (digP (y % 100) 2)).size = 2 := by rw [size_strOf, digP_len]
  have HSm := Lib.hid (fun w => two_any mo w (by omega))
  have zSm : (strOf (digP mo 2)).size = 2 := by rw [size_strOf, digP_len]
  have HSd := Lib.hid (fun w => two_any d w (by omega))
  have zSd : (strOf (digP d 2)).size = 2 := by rw [size_strOf, digP_len]
  have HSh := Lib.hid (fun w => two_any h w (by omega))
  have zSh : (strOf (digP h 2)).size = 2 := by rw [size_strOf, digP_len]
  have HSi := Lib.hid (fun w => two_any mi w (by omega))
  have zSi : (strOf (digP mi 2)).size = 2 := by rw [size_strOf, digP_len]
  have HSs := Lib.hid (fun w => two_any s w (by omega))
  have zSs : (strOf (digP s 2)).size = 2 := by rw [size_strOf, digP_len]
  have h4 : digP y 4 = digP (y / 100) 2 ++ digP (y % 100) 2 := by
    have q1 : y / 10 / 10 = y / 100 := by omega
    have q2 : y % 100 / 10 % 10 = y / 10 % 10 := by omega
    have q3 : y % 100 % 10 = y % 10 := by omega
    simp only [digP, List.nil_append, List.append_assoc, List.cons_append, q1, q2, q3]
  have HJ : Hid (strOf (clockP y mo d h mi s) = (((((((((((strOf (digP (y / 100) 2)) ++ strOf (digP (y % 100) 2)) ++ ({ data := #[45] } : ByteArray)) ++ strOf (digP mo 2)) ++ ({ data := #[45] } : ByteArray)) ++ strOf (digP d 2)) ++ ({ data := #[32] } : ByteArray)) ++ strOf (digP h 2)) ++ ({ data := #[58] } : ByteArray)) ++ strOf (digP mi 2)) ++ ({ data := #[58] } : ByteArray)) ++ strOf (digP s 2)) := Lib.hid (by unfold clockP; rw [h4]; simp only [strOf_cat]; rfl)
  clear h4
  have hq : (y : Int) / 100 = ((y / 100 : Nat) : Int) := by omega
  have hr : (y : Int) % 100 = ((y % 100 : Nat) : Int) := by omega
  have hq2 : (y : Int).tdiv 100 = ((y / 100 : Nat) : Int) := by rw [Int.tdiv_eq_ediv_of_nonneg (by omega)]; exact hq
  have hr2 : (y : Int).tmod 100 = ((y % 100 : Nat) : Int) := by rw [Int.tmod_eq_emod_of_nonneg (by omega)]; exact hr
  generalize strOf (digP (y / 100) 2) = Sx at *
  generalize strOf (digP (y % 100) 2) = Sy at *
  generalize strOf (digP mo 2) = Sm at *
  generalize strOf (digP d 2) = Sd at *
  generalize strOf (digP h 2) = Sh at *
  generalize strOf (digP mi 2) = Si at *
  generalize strOf (digP s 2) = Ss at *
  have hya : y / 100 < 100 := by omega
  generalize y / 100 = ya at *
  generalize y % 100 = yb at *
  have hwr : IntKind.i64.wrap (ya : Int) = (ya : Int) := IntWalk.i64_in _ (by have := hya; omega)
  have a1 : ∀ W', (Op.stringOp .add (Sx) (Sy)).run Tryz.prog W' = .ok (.string ((Sx) ++ Sy)) W' := fun W' => run_string_add_sum _ _ _ (by (try simp only [ByteArray.size_append, e45, e32, e58]); omega)
  have a2 : ∀ W', (Op.stringOp .add ((Sx) ++ Sy) (({ data := #[45] } : ByteArray))).run Tryz.prog W' = .ok (.string (((Sx) ++ Sy) ++ ({ data := #[45] } : ByteArray))) W' := fun W' => run_string_add_sum _ _ _ (by (try simp only [ByteArray.size_append, e45, e32, e58]); omega)
  have a3 : ∀ W', (Op.stringOp .add (((Sx) ++ Sy) ++ ({ data := #[45] } : ByteArray)) (Sm)).run Tryz.prog W' = .ok (.string ((((Sx) ++ Sy) ++ ({ data := #[45] } : ByteArray)) ++ Sm)) W' := fun W' => run_string_add_sum _ _ _ (by (try simp only [ByteArray.size_append, e45, e32, e58]); omega)
  have a4 : ∀ W', (Op.stringOp .add ((((Sx) ++ Sy) ++ ({ data := #[45] } : ByteArray)) ++ Sm) (({ data := #[45] } : ByteArray))).run Tryz.prog W' = .ok (.string (((((Sx) ++ Sy) ++ ({ data := #[45] } : ByteArray)) ++ Sm) ++ ({ data := #[45] } : ByteArray))) W' := fun W' => run_string_add_sum _ _ _ (by (try simp only [ByteArray.size_append, e45, e32, e58]); omega)
  have a5 : ∀ W', (Op.stringOp .add (((((Sx) ++ Sy) ++ ({ data := #[45] } : ByteArray)) ++ Sm) ++ ({ data := #[45] } : ByteArray)) (Sd)).run Tryz.prog W' = .ok (.string ((((((Sx) ++ Sy) ++ ({ data := #[45] } : ByteArray)) ++ Sm) ++ ({ data := #[45] } : ByteArray)) ++ Sd)) W' := fun W' => run_string_add_sum _ _ _ (by (try simp only [ByteArray.size_append, e45, e32, e58]); omega)
  have a6 : ∀ W', (Op.stringOp .add ((((((Sx) ++ Sy) ++ ({ data := #[45] } : ByteArray)) ++ Sm) ++ ({ data := #[45] } : ByteArray)) ++ Sd) (({ data := #[32] } : ByteArray))).run Tryz.prog W' = .ok (.string (((((((Sx) ++ Sy) ++ ({ data := #[45] } : ByteArray)) ++ Sm) ++ ({ data := #[45] } : ByteArray)) ++ Sd) ++ ({ data := #[32] } : ByteArray))) W' := fun W' => run_string_add_sum _ _ _ (by (try simp only [ByteArray.size_append, e45, e32, e58]); omega)
  have a7 : ∀ W', (Op.stringOp .add (((((((Sx) ++ Sy) ++ ({ data := #[45] } : ByteArray)) ++ Sm) ++ ({ data := #[45] } : ByteArray)) ++ Sd) ++ ({ data := #[32] } : ByteArray)) (Sh)).run Tryz.prog W' = .ok (.string ((((((((Sx) ++ Sy) ++ ({ data := #[45] } : ByteArray)) ++ Sm) ++ ({ data := #[45] } : ByteArray)) ++ Sd) ++ ({ data := #[32] } : ByteArray)) ++ Sh)) W' := fun W' => run_string_add_sum _ _ _ (by (try simp only [ByteArray.size_append, e45, e32, e58]); omega)
  have a8 : ∀ W', (Op.stringOp .add ((((((((Sx) ++ Sy) ++ ({ data := #[45] } : ByteArray)) ++ Sm) ++ ({ data := #[45] } : ByteArray)) ++ Sd) ++ ({ data := #[32] } : ByteArray)) ++ Sh) (({ data := #[58] } : ByteArray))).run Tryz.prog W' = .ok (.string (((((((((Sx) ++ Sy) ++ ({ data := #[45] } : ByteArray)) ++ Sm) ++ ({ data := #[45] } : ByteArray)) ++ Sd) ++ ({ data := #[32] } : ByteArray)) ++ Sh) ++ ({ data := #[58] } : ByteArray))) W' := fun W' => run_string_add_sum _ _ _ (by (try simp only [ByteArray.size_append, e45, e32, e58]); omega)
  have a9 : ∀ W', (Op.stringOp .add (((((((((Sx) ++ Sy) ++ ({ data := #[45] } : ByteArray)) ++ Sm) ++ ({ data := #[45] } : ByteArray)) ++ Sd) ++ ({ data := #[32] } : ByteArray)) ++ Sh) ++ ({ data := #[58] } : ByteArray)) (Si)).run Tryz.prog W' = .ok (.string ((((((((((Sx) ++ Sy) ++ ({ data := #[45] } : ByteArray)) ++ Sm) ++ ({ data := #[45] } : ByteArray)) ++ Sd) ++ ({ data := #[32] } : ByteArray)) ++ Sh) ++ ({ data := #[58] } : ByteArray)) ++ Si)) W' := fun W' => run_string_add_sum _ _ _ (by (try simp only [ByteArray.size_append, e45, e32, e58]); omega)
  have a10 : ∀ W', (Op.stringOp .add ((((((((((Sx) ++ Sy) ++ ({ data := #[45] } : ByteArray)) ++ Sm) ++ ({ data := #[45] } : ByteArray)) ++ Sd) ++ ({ data := #[32] } : ByteArray)) ++ Sh) ++ ({ data := #[58] } : ByteArray)) ++ Si) (({ data := #[58] } : ByteArray))).run Tryz.prog W' = .ok (.string (((((((((((Sx) ++ Sy) ++ ({ data := #[45] } : ByteArray)) ++ Sm) ++ ({ data := #[45] } : ByteArray)) ++ Sd) ++ ({ data := #[32] } : ByteArray)) ++ Sh) ++ ({ data := #[58] } : ByteArray)) ++ Si) ++ ({ data := #[58] } : ByteArray))) W' := fun W' => run_string_add_sum _ _ _ (by (try simp only [ByteArray.size_append, e45, e32, e58]); omega)
  have a11 : ∀ W', (Op.stringOp .add (((((((((((Sx) ++ Sy) ++ ({ data := #[45] } : ByteArray)) ++ Sm) ++ ({ data := #[45] } : ByteArray)) ++ Sd) ++ ({ data := #[32] } : ByteArray)) ++ Sh) ++ ({ data := #[58] } : ByteArray)) ++ Si) ++ ({ data := #[58] } : ByteArray)) (Ss)).run Tryz.prog W' = .ok (.string ((((((((((((Sx) ++ Sy) ++ ({ data := #[45] } : ByteArray)) ++ Sm) ++ ({ data := #[45] } : ByteArray)) ++ Sd) ++ ({ data := #[32] } : ByteArray)) ++ Sh) ++ ({ data := #[58] } : ByteArray)) ++ Si) ++ ({ data := #[58] } : ByteArray)) ++ Ss)) W' := fun W' => run_string_add_sum _ _ _ (by (try simp only [ByteArray.size_append, e45, e32, e58]); omega)
  clear e45 e32 e58 zSx zSy zSm zSd zSh zSi zSs
  have HB1 := Lib.hid (Blk.new w [.int .i64 (y : Nat), .int .i64 (mo : Nat), .int .i64 (d : Nat), .int .i64 (h : Nat), .int .i64 (mi : Nat), .int .i64 (s : Nat)] 93)
  have HU1 := Lib.hid ((Upd.refl [] w).alloc (.cells #[.int .i64 (y : Nat), .int .i64 (mo : Nat), .int .i64 (d : Nat), .int .i64 (h : Nat), .int .i64 (mi : Nat), .int .i64 (s : Nat)] 93))
  go_enter Tryz.func54, Tryz.ntmps54
  go_wp2_with fail
  change Code.wp _ _ _ _ (w.alloc (.cells #[.int .i64 (y : Nat), .int .i64 (mo : Nat), .int .i64 (d : Nat), .int .i64 (h : Nat), .int .i64 (mi : Nat), .int .i64 (s : Nat)] 93))
  generalize w.heap.size = q0 at *
  generalize w.alloc (.cells #[.int .i64 (y : Nat), .int .i64 (mo : Nat), .int .i64 (d : Nat), .int .i64 (h : Nat), .int .i64 (mi : Nat), .int .i64 (s : Nat)] 93) = w2 at *
  refine wp_region_held_drew (S := fun w' => Blk w' q0 [.int .i64 (y : Nat), .int .i64 (mo : Nat), .int .i64 (d : Nat), .int .i64 (h : Nat), .int .i64 (mi : Nat), .int .i64 (s : Nat)] 93 ∧ Upd [] w w') (by kernel_rfl) ⟨HB1.out, HU1.out.drew⟩ (fun hHeld => ?_)
  change wpAnyH _ _ _ _ _ 35 #[false, false, false, false, false, false, false, false, false, false, false, false, false, false, false, false, false, false, false, false, false, false, false, false, false, false, false, false, false, false, false, false, false, false, false] _ _
  refine heldTake (i := 0) (d := some 3) (v := ?v0_30) rfl rfl (by kernel_rfl) (by kernel_rfl) (by kernel_rfl) (fun _ _ _ h => h) (by rfl) ?hy0_30 (by assumption) ?r0_30
  case hy0_30 => (intro w hSw; (try dsimp only at hSw); go_simp; try with_reducible rfl)
  try simp only [Act.put, List.setIfInBounds_toArray, List.set_cons_zero, List.set_cons_succ]
  change wpAnyH _ _ _ _ _ 34 #[true, false, false, false, false, false, false, false, false, false, false, false, false, false, false, false, false, false, false, false, false, false, false, false, false, false, false, false, false, false, false, false, false, false, false] _ _
  refine heldTake (i := 1) (d := some 4) (v := ?v1_31) rfl rfl (by kernel_rfl) (by kernel_rfl) (by kernel_rfl) (fun _ _ _ h => h) (by rfl) ?hy1_31 (by assumption) ?r1_31
  case hy1_31 => (intro w5 hSw; have q0 := hSw.1.cell 0 rfl; have q1 := hSw.1.cell 1 rfl; have q2 := hSw.1.cell 2 rfl; have q3 := hSw.1.cell 3 rfl; have q4 := hSw.1.cell 4 rfl; have q5 := hSw.1.cell 5 rfl; go_simp; try with_reducible rfl)
  try simp only [Act.put, List.setIfInBounds_toArray, List.set_cons_zero, List.set_cons_succ]
  change wpAnyH _ _ _ _ _ 33 #[true, true, false, false, false, false, false, false, false, false, false, false, false, false, false, false, false, false, false, false, false, false, false, false, false, false, false, false, false, false, false, false, false, false, false] _ _
  refine heldTake (i := 2) (d := some 5) (v := ?v2_32) rfl rfl (by kernel_rfl) (by kernel_rfl) (by kernel_rfl) (fun _ _ _ h => h) (by rfl) ?hy2_32 (by assumption) ?r2_32
  case hy2_32 => (intro w hSw; (try dsimp only at hSw); go_simp; try with_reducible rfl)
  try simp only [Act.put, List.setIfInBounds_toArray, List.set_cons_zero, List.set_cons_succ]
  change wpAnyH _ _ _ _ _ 32 #[true, true, true, false, false, false, false, false, false, false, false, false, false, false, false, false, false, false, false, false, false, false, false, false, false, false, false, false, false, false, false, false, false, false, false] _ _
  refine heldTake (i := 4) (d := some 7) (v := ?v4_33) rfl rfl (by kernel_rfl) (by kernel_rfl) (by kernel_rfl) (fun _ _ _ h => h) (by rfl) ?hy4_33 (by assumption) ?r4_33
  case hy4_33 => (intro w hSw; (try dsimp only at hSw); go_simp; try with_reducible rfl)
  try simp only [Act.put, List.setIfInBounds_toArray, List.set_cons_zero, List.set_cons_succ]
  change wpAnyH _ _ _ _ _ 31 #[true, true, true, false, true, false, false, false, false, false, false, false, false, false, false, false, false, false, false, false, false, false, false, false, false, false, false, false, false, false, false, false, false, false, false] _ _
  refine heldTake (i := 5) (d := some 8) (v := ?v5_34) rfl rfl (by kernel_rfl) (by kernel_rfl) (by kernel_rfl) (fun _ _ _ h => h) (by rfl) ?hy5_34 (by assumption) ?r5_34
  case hy5_34 => (intro w5 hSw; have q0 := hSw.1.cell 0 rfl; have q1 := hSw.1.cell 1 rfl; have q2 := hSw.1.cell 2 rfl; have q3 := hSw.1.cell 3 rfl; have q4 := hSw.1.cell 4 rfl; have q5 := hSw.1.cell 5 rfl; go_simp; try with_reducible rfl)
  try simp only [Act.put, List.setIfInBounds_toArray, List.set_cons_zero, List.set_cons_succ]
  change wpAnyH _ _ _ _ _ 30 #[true, true, true, false, true, true, false, false, false, false, false, false, false, false, false, false, false, false, false, false, false, false, false, false, false, false, false, false, false, false, false, false, false, false, false] _ _
  refine heldTake (i := 6) (d := some 9) (v := ?v6_35) rfl rfl (by kernel_rfl) (by kernel_rfl) (by kernel_rfl) (fun _ _ _ h => h) (by rfl) ?hy6_35 (by assumption) ?r6_35
  case hy6_35 => (intro w hSw; (try dsimp only at hSw); go_simp; try with_reducible rfl)
  try simp only [Act.put, List.setIfInBounds_toArray, List.set_cons_zero, List.set_cons_succ]
  change wpAnyH _ _ _ _ _ 29 #[true, true, true, false, true, true, true, false, false, false, false, false, false, false, false, false, false, false, false, false, false, false, false, false, false, false, false, false, false, false, false, false, false, false, false] _ _
  refine heldTake (i := 10) (d := some 13) (v := ?v10_36) rfl rfl (by kernel_rfl) (by kernel_rfl) (by kernel_rfl) (fun _ _ _ h => h) (by rfl) ?hy10_36 (by assumption) ?r10_36
  case hy10_36 => (intro w hSw; (try dsimp only at hSw); go_simp; try with_reducible rfl)
  try simp only [Act.put, List.setIfInBounds_toArray, List.set_cons_zero, List.set_cons_succ]
  change wpAnyH _ _ _ _ _ 28 #[true, true, true, false, true, true, true, false, false, false, true, false, false, false, false, false, false, false, false, false, false, false, false, false, false, false, false, false, false, false, false, false, false, false, false] _ _
  refine heldTake (i := 11) (d := some 14) (v := ?v11_37) rfl rfl (by kernel_rfl) (by kernel_rfl) (by kernel_rfl) (fun _ _ _ h => h) (by rfl) ?hy11_37 (by assumption) ?r11_37
  case hy11_37 => (intro w5 hSw; have q0 := hSw.1.cell 0 rfl; have q1 := hSw.1.cell 1 rfl; have q2 := hSw.1.cell 2 rfl; have q3 := hSw.1.cell 3 rfl; have q4 := hSw.1.cell 4 rfl; have q5 := hSw.1.cell 5 rfl; go_simp; try with_reducible rfl)
  try simp only [Act.put, List.setIfInBounds_toArray, List.set_cons_zero, List.set_cons_succ]
  change wpAnyH _ _ _ _ _ 27 #[true, true, true, false, true, true, true, false, false, false, true, true, false, false, false, false, false, false, false, false, false, false, false, false, false, false, false, false, false, false, false, false, false, false, false] _ _
  refine heldTake (i := 15) (d := some 18) (v := ?v15_38) rfl rfl (by kernel_rfl) (by kernel_rfl) (by kernel_rfl) (fun _ _ _ h => h) (by rfl) ?hy15_38 (by assumption) ?r15_38
  case hy15_38 => (intro w hSw; (try dsimp only at hSw); go_simp; try with_reducible rfl)
  try simp only [Act.put, List.setIfInBounds_toArray, List.set_cons_zero, List.set_cons_succ]
  change wpAnyH _ _ _ _ _ 26 #[true, true, true, false, true, true, true, false, false, false, true, true, false, false, false, true, false, false, false, false, false, false, false, false, false, false, false, false, false, false, false, false, false, false, false] _ _
  refine heldTake (i := 16) (d := some 19) (v := ?v16_39) rfl rfl (by kernel_rfl) (by kernel_rfl) (by kernel_rfl) (fun _ _ _ h => h) (by rfl) ?hy16_39 (by assumption) ?r16_39
  case hy16_39 => (intro w5 hSw; have q0 := hSw.1.cell 0 rfl; have q1 := hSw.1.cell 1 rfl; have q2 := hSw.1.cell 2 rfl; have q3 := hSw.1.cell 3 rfl; have q4 := hSw.1.cell 4 rfl; have q5 := hSw.1.cell 5 rfl; go_simp; try with_reducible rfl)
  try simp only [Act.put, List.setIfInBounds_toArray, List.set_cons_zero, List.set_cons_succ]
  change wpAnyH _ _ _ _ _ 25 #[true, true, true, false, true, true, true, false, false, false, true, true, false, false, false, true, true, false, false, false, false, false, false, false, false, false, false, false, false, false, false, false, false, false, false] _ _
  refine heldTake (i := 20) (d := some 23) (v := ?v20_40) rfl rfl (by kernel_rfl) (by kernel_rfl) (by kernel_rfl) (fun _ _ _ h => h) (by rfl) ?hy20_40 (by assumption) ?r20_40
  case hy20_40 => (intro w hSw; (try dsimp only at hSw); go_simp; try with_reducible rfl)
  try simp only [Act.put, List.setIfInBounds_toArray, List.set_cons_zero, List.set_cons_succ]
  change wpAnyH _ _ _ _ _ 24 #[true, true, true, false, true, true, true, false, false, false, true, true, false, false, false, true, true, false, false, false, true, false, false, false, false, false, false, false, false, false, false, false, false, false, false] _ _
  refine heldTake (i := 21) (d := some 24) (v := ?v21_41) rfl rfl (by kernel_rfl) (by kernel_rfl) (by kernel_rfl) (fun _ _ _ h => h) (by rfl) ?hy21_41 (by assumption) ?r21_41
  case hy21_41 => (intro w5 hSw; have q0 := hSw.1.cell 0 rfl; have q1 := hSw.1.cell 1 rfl; have q2 := hSw.1.cell 2 rfl; have q3 := hSw.1.cell 3 rfl; have q4 := hSw.1.cell 4 rfl; have q5 := hSw.1.cell 5 rfl; go_simp; try with_reducible rfl)
  try simp only [Act.put, List.setIfInBounds_toArray, List.set_cons_zero, List.set_cons_succ]
  change wpAnyH _ _ _ _ _ 23 #[true, true, true, false, true, true, true, false, false, false, true, true, false, false, false, true, true, false, false, false, true, true, false, false, false, false, false, false, false, false, false, false, false, false, false] _ _
  refine heldTake (i := 25) (d := some 28) (v := ?v25_42) rfl rfl (by kernel_rfl) (by kernel_rfl) (by kernel_rfl) (fun _ _ _ h => h) (by rfl) ?hy25_42 (by assumption) ?r25_42
  case hy25_42 => (intro w hSw; (try dsimp only at hSw); go_simp; try with_reducible rfl)
  try simp only [Act.put, List.setIfInBounds_toArray, List.set_cons_zero, List.set_cons_succ]
  change wpAnyH _ _ _ _ _ 22 #[true, true, true, false, true, true, true, false, false, false, true, true, false, false, false, true, true, false, false, false, true, true, false, false, false, true, false, false, false, false, false, false, false, false, false] _ _
  refine heldTake (i := 26) (d := some 29) (v := ?v26_43) rfl rfl (by kernel_rfl) (by kernel_rfl) (by kernel_rfl) (fun _ _ _ h => h) (by rfl) ?hy26_43 (by assumption) ?r26_43
  case hy26_43 => (intro w5 hSw; have q0 := hSw.1.cell 0 rfl; have q1 := hSw.1.cell 1 rfl; have q2 := hSw.1.cell 2 rfl; have q3 := hSw.1.cell 3 rfl; have q4 := hSw.1.cell 4 rfl; have q5 := hSw.1.cell 5 rfl; go_simp; try with_reducible rfl)
  try simp only [Act.put, List.setIfInBounds_toArray, List.set_cons_zero, List.set_cons_succ]
  change wpAnyH _ _ _ _ _ 21 #[true, true, true, false, true, true, true, false, false, false, true, true, false, false, false, true, true, false, false, false, true, true, false, false, false, true, true, false, false, false, false, false, false, false, false] _ _
  refine heldTake (i := 30) (d := some 33) (v := ?v30_44) rfl rfl (by kernel_rfl) (by kernel_rfl) (by kernel_rfl) (fun _ _ _ h => h) (by rfl) ?hy30_44 (by assumption) ?r30_44
  case hy30_44 => (intro w hSw; (try dsimp only at hSw); go_simp; try with_reducible rfl)
  try simp only [Act.put, List.setIfInBounds_toArray, List.set_cons_zero, List.set_cons_succ]
  change wpAnyH _ _ _ _ _ 20 #[true, true, true, false, true, true, true, false, false, false, true, true, false, false, false, true, true, false, false, false, true, true, false, false, false, true, true, false, false, false, true, false, false, false, false] _ _
  refine heldTake (i := 31) (d := some 34) (v := ?v31_45) rfl rfl (by kernel_rfl) (by kernel_rfl) (by kernel_rfl) (fun _ _ _ h => h) (by rfl) ?hy31_45 (by assumption) ?r31_45
  case hy31_45 => (intro w5 hSw; have q0 := hSw.1.cell 0 rfl; have q1 := hSw.1.cell 1 rfl; have q2 := hSw.1.cell 2 rfl; have q3 := hSw.1.cell 3 rfl; have q4 := hSw.1.cell 4 rfl; have q5 := hSw.1.cell 5 rfl; go_simp; try with_reducible rfl)
  try simp only [Act.put, List.setIfInBounds_toArray, List.set_cons_zero, List.set_cons_succ]
  change wpAnyH _ _ _ _ _ 19 #[true, true, true, false, true, true, true, false, false, false, true, true, false, false, false, true, true, false, false, false, true, true, false, false, false, true, true, false, false, false, true, true, false, false, false] _ _
  refine wpAnyH_ready (rs := [3]) (by kernel_rfl) (by simp) ?_
  refine AllReadyH.cons rfl (fun K hK => ?_) AllReadyH.nil
  go_simp
  refine (HSx.out _).mono ?_
  rintro e z9 ⟨rfl, hz9⟩
  go_wp2
  refine hK.out _ _ ⟨hHeld.1.upd hz9 (by simp), hHeld.2.then hz9⟩ (fun hHeld => ?_)
  clear hK K
  try simp only [Act.put, List.setIfInBounds_toArray, List.set_cons_zero, List.set_cons_succ]
  change wpAnyH _ _ _ _ _ 18 #[true, true, true, true, true, true, true, false, false, false, true, true, false, false, false, true, true, false, false, false, true, true, false, false, false, true, true, false, false, false, true, true, false, false, false] _ _
  refine wpAnyH_ready (rs := [7]) (by kernel_rfl) (by simp) ?_
  refine AllReadyH.cons rfl (fun K hK => ?_) AllReadyH.nil
  go_simp
  refine (HSy.out _).mono ?_
  rintro e z9 ⟨rfl, hz9⟩
  go_wp2
  refine hK.out _ _ ⟨hHeld.1.upd hz9 (by simp), hHeld.2.then hz9⟩ (fun hHeld => ?_)
  clear hK K
  try simp only [Act.put, List.setIfInBounds_toArray, List.set_cons_zero, List.set_cons_succ]
  change wpAnyH _ _ _ _ _ 17 #[true, true, true, true, true, true, true, true, false, false, true, true, false, false, false, true, true, false, false, false, true, true, false, false, false, true, true, false, false, false, true, true, false, false, false] _ _
  refine heldTake (i := 8) (d := some 11) (v := ?v8_48) rfl rfl (by kernel_rfl) (by kernel_rfl) (by kernel_rfl) (fun _ _ _ h => h) (by rfl) ?hy8_48 (by assumption) ?r8_48
  case hy8_48 => (intro w hSw; (try dsimp only at hSw); go_simp; try with_reducible rfl)
  try simp only [Act.put, List.setIfInBounds_toArray, List.set_cons_zero, List.set_cons_succ]
  change wpAnyH _ _ _ _ _ 16 #[true, true, true, true, true, true, true, true, true, false, true, true, false, false, false, true, true, false, false, false, true, true, false, false, false, true, true, false, false, false, true, true, false, false, false] _ _
  refine heldTake (i := 9) (d := some 12) (v := ?v9_49) rfl rfl (by kernel_rfl) (by kernel_rfl) (by kernel_rfl) (fun _ _ _ h => h) (by rfl) ?hy9_49 (by assumption) ?r9_49
  case hy9_49 => (intro w hSw; (try dsimp only at hSw); go_simp; try with_reducible rfl)
  try simp only [Act.put, List.setIfInBounds_toArray, List.set_cons_zero, List.set_cons_succ]
  change wpAnyH _ _ _ _ _ 15 #[true, true, true, true, true, true, true, true, true, true, true, true, false, false, false, true, true, false, false, false, true, true, false, false, false, true, true, false, false, false, true, true, false, false, false] _ _
  refine wpAnyH_ready (rs := [12]) (by kernel_rfl) (by simp) ?_
  refine AllReadyH.cons rfl (fun K hK => ?_) AllReadyH.nil
  go_simp
  refine (HSm.out _).mono ?_
  rintro e z9 ⟨rfl, hz9⟩
  go_wp2
  refine hK.out _ _ ⟨hHeld.1.upd hz9 (by simp), hHeld.2.then hz9⟩ (fun hHeld => ?_)
  clear hK K
  try simp only [Act.put, List.setIfInBounds_toArray, List.set_cons_zero, List.set_cons_succ]
  change wpAnyH _ _ _ _ _ 14 #[true, true, true, true, true, true, true, true, true, true, true, true, true, false, false, true, true, false, false, false, true, true, false, false, false, true, true, false, false, false, true, true, false, false, false] _ _
  refine heldTake (i := 13) (d := some 16) (v := ?v13_51) rfl rfl (by kernel_rfl) (by kernel_rfl) (by kernel_rfl) (fun _ _ _ h => h) (by rfl) ?hy13_51 (by assumption) ?r13_51
  case hy13_51 => (intro w hSw; (try dsimp only at hSw); go_simp; try with_reducible rfl)
  try simp only [Act.put, List.setIfInBounds_toArray, List.set_cons_zero, List.set_cons_succ]
  change wpAnyH _ _ _ _ _ 13 #[true, true, true, true, true, true, true, true, true, true, true, true, true, true, false, true, true, false, false, false, true, true, false, false, false, true, true, false, false, false, true, true, false, false, false] _ _
  refine heldTake (i := 14) (d := some 17) (v := ?v14_52) rfl rfl (by kernel_rfl) (by kernel_rfl) (by kernel_rfl) (fun _ _ _ h => h) (by rfl) ?hy14_52 (by assumption) ?r14_52
  case hy14_52 => (intro w hSw; (try dsimp only at hSw); go_simp; try with_reducible rfl)
  try simp only [Act.put, List.setIfInBounds_toArray, List.set_cons_zero, List.set_cons_succ]
  change wpAnyH _ _ _ _ _ 12 #[true, true, true, true, true, true, true, true, true, true, true, true, true, true, true, true, true, false, false, false, true, true, false, false, false, true, true, false, false, false, true, true, false, false, false] _ _
  refine wpAnyH_ready (rs := [17]) (by kernel_rfl) (by simp) ?_
  refine AllReadyH.cons rfl (fun K hK => ?_) AllReadyH.nil
  go_simp
  refine (HSd.out _).mono ?_
  rintro e z9 ⟨rfl, hz9⟩
  go_wp2
  refine hK.out _ _ ⟨hHeld.1.upd hz9 (by simp), hHeld.2.then hz9⟩ (fun hHeld => ?_)
  clear hK K
  try simp only [Act.put, List.setIfInBounds_toArray, List.set_cons_zero, List.set_cons_succ]
  change wpAnyH _ _ _ _ _ 11 #[true, true, true, true, true, true, true, true, true, true, true, true, true, true, true, true, true, true, false, false, true, true, false, false, false, true, true, false, false, false, true, true, false, false, false] _ _
  refine heldTake (i := 18) (d := some 21) (v := ?v18_54) rfl rfl (by kernel_rfl) (by kernel_rfl) (by kernel_rfl) (fun _ _ _ h => h) (by rfl) ?hy18_54 (by assumption) ?r18_54
  case hy18_54 => (intro w hSw; (try dsimp only at hSw); go_simp; try with_reducible rfl)
  try simp only [Act.put, List.setIfInBounds_toArray, List.set_cons_zero, List.set_cons_succ]
  change wpAnyH _ _ _ _ _ 10 #[true, true, true, true, true, true, true, true, true, true, true, true, true, true, true, true, true, true, true, false, true, true, false, false, false, true, true, false, false, false, true, true, false, false, false] _ _
  refine heldTake (i := 19) (d := some 22) (v := ?v19_55) rfl rfl (by kernel_rfl) (by kernel_rfl) (by kernel_rfl) (fun _ _ _ h => h) (by rfl) ?hy19_55 (by assumption) ?r19_55
  case hy19_55 => (intro w hSw; (try dsimp only at hSw); go_simp; try with_reducible rfl)
  try simp only [Act.put, List.setIfInBounds_toArray, List.set_cons_zero, List.set_cons_succ]
  change wpAnyH _ _ _ _ _ 9 #[true, true, true, true, true, true, true, true, true, true, true, true, true, true, true, true, true, true, true, true, true, true, false, false, false, true, true, false, false, false, true, true, false, false, false] _ _
  refine wpAnyH_ready (rs := [22]) (by kernel_rfl) (by simp) ?_
  refine AllReadyH.cons rfl (fun K hK => ?_) AllReadyH.nil
  go_simp
  refine (HSh.out _).mono ?_
  rintro e z9 ⟨rfl, hz9⟩
  go_wp2
  refine hK.out _ _ ⟨hHeld.1.upd hz9 (by simp), hHeld.2.then hz9⟩ (fun hHeld => ?_)
  clear hK K
  try simp only [Act.put, List.setIfInBounds_toArray, List.set_cons_zero, List.set_cons_succ]
  change wpAnyH _ _ _ _ _ 8 #[true, true, true, true, true, true, true, true, true, true, true, true, true, true, true, true, true, true, true, true, true, true, true, false, false, true, true, false, false, false, true, true, false, false, false] _ _
  refine heldTake (i := 23) (d := some 26) (v := ?v23_57) rfl rfl (by kernel_rfl) (by kernel_rfl) (by kernel_rfl) (fun _ _ _ h => h) (by rfl) ?hy23_57 (by assumption) ?r23_57
  case hy23_57 => (intro w hSw; (try dsimp only at hSw); go_simp; try with_reducible rfl)
  try simp only [Act.put, List.setIfInBounds_toArray, List.set_cons_zero, List.set_cons_succ]
  change wpAnyH _ _ _ _ _ 7 #[true, true, true, true, true, true, true, true, true, true, true, true, true, true, true, true, true, true, true, true, true, true, true, true, false, true, true, false, false, false, true, true, false, false, false] _ _
  refine heldTake (i := 24) (d := some 27) (v := ?v24_58) rfl rfl (by kernel_rfl) (by kernel_rfl) (by kernel_rfl) (fun _ _ _ h => h) (by rfl) ?hy24_58 (by assumption) ?r24_58
  case hy24_58 => (intro w hSw; (try dsimp only at hSw); go_simp; try with_reducible rfl)
  try simp only [Act.put, List.setIfInBounds_toArray, List.set_cons_zero, List.set_cons_succ]
  change wpAnyH _ _ _ _ _ 6 #[true, true, true, true, true, true, true, true, true, true, true, true, true, true, true, true, true, true, true, true, true, true, true, true, true, true, true, false, false, false, true, true, false, false, false] _ _
  refine wpAnyH_ready (rs := [27]) (by kernel_rfl) (by simp) ?_
  refine AllReadyH.cons rfl (fun K hK => ?_) AllReadyH.nil
  go_simp
  refine (HSi.out _).mono ?_
  rintro e z9 ⟨rfl, hz9⟩
  go_wp2
  refine hK.out _ _ ⟨hHeld.1.upd hz9 (by simp), hHeld.2.then hz9⟩ (fun hHeld => ?_)
  clear hK K
  try simp only [Act.put, List.setIfInBounds_toArray, List.set_cons_zero, List.set_cons_succ]
  change wpAnyH _ _ _ _ _ 5 #[true, true, true, true, true, true, true, true, true, true, true, true, true, true, true, true, true, true, true, true, true, true, true, true, true, true, true, true, false, false, true, true, false, false, false] _ _
  refine heldTake (i := 28) (d := some 31) (v := ?v28_60) rfl rfl (by kernel_rfl) (by kernel_rfl) (by kernel_rfl) (fun _ _ _ h => h) (by rfl) ?hy28_60 (by assumption) ?r28_60
  case hy28_60 => (intro w hSw; (try dsimp only at hSw); go_simp; try with_reducible rfl)
  try simp only [Act.put, List.setIfInBounds_toArray, List.set_cons_zero, List.set_cons_succ]
  change wpAnyH _ _ _ _ _ 4 #[true, true, true, true, true, true, true, true, true, true, true, true, true, true, true, true, true, true, true, true, true, true, true, true, true, true, true, true, true, false, true, true, false, false, false] _ _
  refine heldTake (i := 29) (d := some 32) (v := ?v29_61) rfl rfl (by kernel_rfl) (by kernel_rfl) (by kernel_rfl) (fun _ _ _ h => h) (by rfl) ?hy29_61 (by assumption) ?r29_61
  case hy29_61 => (intro w hSw; (try dsimp only at hSw); go_simp; try with_reducible rfl)
  try simp only [Act.put, List.setIfInBounds_toArray, List.set_cons_zero, List.set_cons_succ]
  change wpAnyH _ _ _ _ _ 3 #[true, true, true, true, true, true, true, true, true, true, true, true, true, true, true, true, true, true, true, true, true, true, true, true, true, true, true, true, true, true, true, true, false, false, false] _ _
  refine wpAnyH_ready (rs := [32]) (by kernel_rfl) (by simp) ?_
  refine AllReadyH.cons rfl (fun K hK => ?_) AllReadyH.nil
  go_simp
  refine (HSs.out _).mono ?_
  rintro e z9 ⟨rfl, hz9⟩
  go_wp2
  refine hK.out _ _ ⟨hHeld.1.upd hz9 (by simp), hHeld.2.then hz9⟩ (fun hHeld => ?_)
  clear hK K
  try simp only [Act.put, List.setIfInBounds_toArray, List.set_cons_zero, List.set_cons_succ]
  change wpAnyH _ _ _ _ _ 2 #[true, true, true, true, true, true, true, true, true, true, true, true, true, true, true, true, true, true, true, true, true, true, true, true, true, true, true, true, true, true, true, true, true, false, false] _ _
  refine heldTake (i := 33) (d := some 36) (v := ?v33_63) rfl rfl (by kernel_rfl) (by kernel_rfl) (by kernel_rfl) (fun _ _ _ h => h) (by rfl) ?hy33_63 (by assumption) ?r33_63
  case hy33_63 => (intro w hSw; (try dsimp only at hSw); go_simp; try with_reducible rfl)
  try simp only [Act.put, List.setIfInBounds_toArray, List.set_cons_zero, List.set_cons_succ]
  change wpAnyH _ _ _ _ _ 1 #[true, true, true, true, true, true, true, true, true, true, true, true, true, true, true, true, true, true, true, true, true, true, true, true, true, true, true, true, true, true, true, true, true, true, false] _ _
  refine heldTake (i := 34) (d := some 2) (v := ?v34_64) rfl rfl (by kernel_rfl) (by kernel_rfl) (by kernel_rfl) (fun _ _ _ h => h) (by rfl) ?hy34_64 (by assumption) ?r34_64
  case hy34_64 => (intro w hSw; (try dsimp only at hSw); go_simp; try with_reducible rfl)
  try simp only [Act.put, List.setIfInBounds_toArray, List.set_cons_zero, List.set_cons_succ]
  change wpAnyH _ _ _ _ _ 0 #[true, true, true, true, true, true, true, true, true, true, true, true, true, true, true, true, true, true, true, true, true, true, true, true, true, true, true, true, true, true, true, true, true, true, true] _ _
  refine wpAnyH_done (by kernel_rfl) ?_ 0
  go_wp2_with fail
  go_ret
  exact ⟨by rw [HJ.out]; rfl, hHeld.2⟩
end Go.Proofs.YtigjingielnaoaaGreatDoor
