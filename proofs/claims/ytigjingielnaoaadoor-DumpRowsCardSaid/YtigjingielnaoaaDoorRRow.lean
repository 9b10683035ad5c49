/- Package swingleref43: Row: its walk. -/
import Derived.Test.YtigjingielnaoaaDoorDRow
namespace Go.Proofs.YtigjingielnaoaaDoor
set_option linter.unusedVariables false
set_option linter.unusedSimpArgs false
set_option linter.unusedSectionVars false
open Go.RowKit
set_option linter.unusedVariables false
set_option linter.unusedSimpArgs false

theorem addl_row3 (L M : List Nat) (hL : L.length + M.length ≤ 100000) (w : World) : (Op.stringOp .add (strOf L) (strOf M)).run Tryd.prog w = .ok (.string (strOf (L ++ M))) w := by
  rw [run_string_add_sum _ _ _ (by rw [size_strOf, size_strOf]; omega), ← strOf_cat]
/-- Numbers, a blank behind each. -/
def numT (l : List Nat) : List Nat := l.flatMap fun n => decL n ++ [32]
theorem numT_snoc (l : List Nat) (n : Nat) : numT (l ++ [n]) = numT l ++ (decL n ++ [32]) := by simp [numT]
theorem numT_len : ∀ l : List Nat, (∀ n ∈ l, n < 10000000000) → (numT l).length ≤ 12 * l.length
  | [], _ => by simp [numT]
  | n :: l, h => by
    have h1 := numT_len l (fun x hx => h x (List.mem_cons_of_mem _ hx))
    have h2 := decL_len 10 n (h n (List.mem_cons_self ..))
    have e : numT (n :: l) = (decL n ++ [32]) ++ numT l := by simp [numT]
    rw [e]
    simp
    omega
set_option maxRecDepth 100000 in
set_option maxHeartbeats 6400000 in
theorem rrow_any (r : RecD) (w : World) (hr : r.Fits) : Calls Tryd.prog 7 #[r.v] w fun e w' => e = .returned (.string (strOf (rowP r))) ∧ Upd [] w w' := by
  have HF := Lib.hid (fun w' => rright19_any r w' hr)
  by_cases hfb : recErr r = 0
  · have HV := Lib.hid (show rowP r = joinC 32 (rowW r) from if_neg (by rw [hfb]; simp))
    rw [hfb] at HF
    obtain ⟨_, hl, hm1, hm2, htb⟩ := recErr_zero hfb
    obtain ⟨b1, b2, b3, b4⟩ := laidB_bd hl
    have HN := Lib.hid (fun w => rname19_any r w hr)
    have htm : timeB r.t = true := by
      unfold rtimeB at htb
      split at htb
      · have := of_decide_eq_true htb
        rw [this]
        decide +kernel
      · exact htb
    have hrp := hr.p
    obtain ⟨p, m, sum, l, wh, k, md, t, pos⟩ := r
    dsimp only at b1 b2 b3 b4 hm1 hm2 htm hrp
    obtain ⟨pos, rfl⟩ : ∃ n : Nat, pos = n := ⟨pos.toNat, by omega⟩
    obtain ⟨m, rfl⟩ : ∃ n : Nat, m = n := ⟨m.toNat, by omega⟩
    obtain ⟨l, rfl⟩ : ∃ n : Nat, l = n := ⟨l.toNat, by omega⟩
    obtain ⟨wh, rfl⟩ : ∃ n : Nat, wh = n := ⟨wh.toNat, by omega⟩
    obtain ⟨md, rfl⟩ : ∃ n : Nat, md = n := ⟨md.toNat, by omega⟩
    have HW : Hid (joinC 32 (rowW ⟨p, m, sum, l, wh, k, md, t, pos⟩) = numT [pos, m, l, wh] ++ hexP sum 8 ++ [32] ++ permTo md 9 ++ [32] ++ dosTextP t ++ [32] ++ nameP k p) := Lib.hid (by
      show joinC 32 [decL pos, decL m, decL l, decL wh, hexP sum 8, permTo md 9, dosTextP t, nameP k p] = _
      simp [joinC, numT])
    rw [HW.out] at HV
    clear HW
    have hsum := hr.sum
    have ht := hr.t
    dsimp only at hsum ht
    have HL : Hid ([pos, m, l, wh].length = 4 ∧ ∀ n ∈ [pos, m, l, wh], n < 10000000000) := Lib.hid ⟨rfl, by simp; omega⟩
    have H5 := Lib.hid (fun w => rhex_any sum w hsum)
    have H6 := Lib.hid (fun w => rperm_any md w (by omega))
    have HS := Lib.hid (fun w => rsplit_any t w ht)
    obtain ⟨x1, x2, x3, x4, x5, x6⟩ := parts_bd t
    have HD := Lib.hid (fun w => rText_any (yN t) (moN t) (dN t) (hN t) (miN t) (sN t) w x1 (by unfold yN; omega) x2 x3 x4 x5 x6)
    have HTX : Hid (dosTextP t = clockP (yN t) (moN t) (dN t) (hN t) (miN t) (sN t)) := Lib.hid (if_pos htm)
    rw [← HTX.out, ← partsL_eq] at HD
    clear HTX x1 x2 x3 x4 x5 x6 htm
    have l5 := hexP_len 8 sum
    have l6 := permTo_len md 9
    have l7 := dosTextP_len t
    have l8 := nameP_len k p
    have l0 := numT_len _ HL.out.2
    simp only [List.length_cons, List.length_nil] at l0
    clear hr hl htb b1 b2 b3 b4 hm1 hm2 hsum ht hfb
    unfold RecD.v at HF HN ⊢
    dsimp only at HF HN ⊢
    generalize hexP sum 8 = W5 at *
    generalize permTo md 9 = W6 at *
    generalize dosTextP t = W7 at *
    generalize nameP k p = W8 at *
    generalize partsL t = PL at *
    have z1 := fun w => addl_row3 (numT [pos, m, l, wh]) W5 (by omega) w
    have z2 := fun w => addl_row3 (numT [pos, m, l, wh] ++ W5) [32] (by simp; omega) w
    have z3 := fun w => addl_row3 (numT [pos, m, l, wh] ++ W5 ++ [32]) W6 (by simp; omega) w
    have z4 := fun w => addl_row3 (numT [pos, m, l, wh] ++ W5 ++ [32] ++ W6) [32] (by simp; omega) w
    have z5 := fun w => addl_row3 (numT [pos, m, l, wh] ++ W5 ++ [32] ++ W6 ++ [32]) W7 (by simp; omega) w
    have z6 := fun w => addl_row3 (numT [pos, m, l, wh] ++ W5 ++ [32] ++ W6 ++ [32] ++ W7) [32] (by simp; omega) w
    have z7 := fun w => addl_row3 (numT [pos, m, l, wh] ++ W5 ++ [32] ++ W6 ++ [32] ++ W7 ++ [32]) W8 (by simp; omega) w
    have y2 : strOf [32] = ({ data := #[32] } : ByteArray) := rfl
    rw [y2] at z2 z4 z6
    clear y2 l5 l6 l7 l8 l0
    have Z := Lib.hid (And.intro z1 (And.intro z2 (And.intro z3 (And.intro z4 (And.intro z5 (And.intro z6 z7))))))
    clear z1 z2 z3 z4 z5 z6 z7
    have HB0 := Lib.hid (Blk.new w [.string p, .int .i64 (m : Nat), .int .u32 (sum : Nat), .int .i64 (l : Nat), .int .i64 (wh : Nat), .int .i64 k, .int .i64 (md : Nat), .int .u32 (t : Nat), .int .i64 (pos : Nat)] 24)
    have HU0 := Lib.hid ((Upd.refl [] w).alloc (.cells #[.string p, .int .i64 (m : Nat), .int .u32 (sum : Nat), .int .i64 (l : Nat), .int .i64 (wh : Nat), .int .i64 k, .int .i64 (md : Nat), .int .u32 (t : Nat), .int .i64 (pos : Nat)] 24))
    go_enter Tryd.func7, Tryd.ntmps7
    go_wp2_with fail
    refine (HF.out _).mono ?_
    rintro e w1 ⟨rfl, hu1⟩
    have HB1 := Lib.hid (HB0.out.upd hu1 (by simp))
    have HU1 := Lib.hid (HU0.out.then hu1)
    clear HB0 HU0 hu1
    have c8 := HB1.out.cell 8 rfl
    have c1 := HB1.out.cell 1 rfl
    have c3 := HB1.out.cell 3 rfl
    have c4 := HB1.out.cell 4 rfl
    go_wp2
    clear c8 c1 c3 c4
    have HG := Lib.hid (Blk.new w1 [.int .i64 (pos : Nat), .int .i64 (m : Nat), .int .i64 (l : Nat), .int .i64 (wh : Nat)] 3)
    have HB2 := Lib.hid (HB1.out.alloc (.cells #[.int .i64 (pos : Nat), .int .i64 (m : Nat), .int .i64 (l : Nat), .int .i64 (wh : Nat)] 3))
    have HU2 := Lib.hid (HU1.out.alloc (.cells #[.int .i64 (pos : Nat), .int .i64 (m : Nat), .int .i64 (l : Nat), .int .i64 (wh : Nat)] 3))
    clear HB1 HU1
    have HGC : Hid (∀ i (hi : i < 4), ([.int .i64 (pos : Nat), .int .i64 (m : Nat), .int .i64 (l : Nat), .int .i64 (wh : Nat)] : List Value)[i]? = some (.int .i64 (([pos, m, l, wh].getD i 0 : Nat) : Int))) := Lib.hid (fun i hi => by
      rcases (by omega : i = 0 ∨ i = 1 ∨ i = 2 ∨ i = 3) with rfl | rfl | rfl | rfl <;> rfl)
    have HGE : Hid (∀ i, i < 4 → [pos, m, l, wh].take (i + 1) = [pos, m, l, wh].take i ++ [[pos, m, l, wh].getD i 0]) := Lib.hid (fun i hi => by
      rcases (by omega : i = 0 ∨ i = 1 ∨ i = 2 ∨ i = 3) with rfl | rfl | rfl | rfl <;> rfl)
    have HGB : Hid (∀ i, i < 4 → [pos, m, l, wh].getD i 0 < 10000000000) := Lib.hid (fun i hi => by
      have h := HL.out.2
      rcases (by omega : i = 0 ∨ i = 1 ∨ i = 2 ∨ i = 3) with rfl | rfl | rfl | rfl <;> exact h _ (by simp))
    have HGT : Hid ([pos, m, l, wh].take 4 = [pos, m, l, wh]) := Lib.hid rfl
    generalize w.heap.size = q0 at *
    generalize w1.alloc (.cells #[.int .i64 (pos : Nat), .int .i64 (m : Nat), .int .i64 (l : Nat), .int .i64 (wh : Nat)] 3) = w2 at *
    generalize w1.heap.size = g at *
    generalize ([.int .i64 (pos : Nat), .int .i64 (m : Nat), .int .i64 (l : Nat), .int .i64 (wh : Nat)] : List Value) = GC at HG HGC
    generalize [pos, m, l, wh] = LL at *
    have HTL : Hid (∀ i, (numT (LL.take i)).length ≤ 48) := Lib.hid (fun i => by
      have h1 := numT_len (LL.take i) (fun n hn => HL.out.2 n (List.mem_of_mem_take hn))
      have h2 : (LL.take i).length ≤ 4 := by rw [List.length_take, HL.out.1]; omega
      omega)
    go_loopg [3, 19] 4 (fun gg s3 s19 wr => ∃ i : Nat, i ≤ 4 ∧ gg = 4 - i ∧ s19 = .int .i64 (i : Nat) ∧ s3 = .string (strOf (numT (LL.take i))) ∧ Hid (Upd [] w2 wr))
    case atStart => exact ⟨0, by omega, by omega, rfl, rfl, Lib.hid (Upd.refl _ _)⟩
    case round =>
      obtain ⟨i, hin, rfl, rfl, rfl, HU3⟩ := hrel
      by_cases hc : i < 4
      · have hcz : (i : Int) < 4 := by omega
        have hgc := (HG.out.upd HU3.out (by simp)).cell i (HGC.out i hc)
        have hlt := HTL.out i
        have HSN : Hid (numT (LL.take (i + 1)) = numT (LL.take i) ++ (decL (LL.getD i 0) ++ [32])) := Lib.hid (by rw [HGE.out i hc, numT_snoc])
        have HGB1 := HGB.out i hc
        generalize LL.getD i 0 = x at *
        have HX := Lib.hid (fun w => rdecB_any x w HGB1)
        have hdl := decL_len 10 x (by omega)
        have z1 := fun w => addl_row3 (decL x) [32] (by simp; omega) w
        have z2 := fun w => addl_row3 (numT (LL.take i)) (decL x ++ [32]) (by simp; omega) w
        have y2 : strOf [32] = ({ data := #[32] } : ByteArray) := rfl
        rw [y2] at z1
        rw [← HSN.out] at z2
        clear y2 HGB1 hdl
        generalize decL x ++ [32] = DX at *
        generalize decL x = DY at *
        obtain ⟨Y2, hY2⟩ : ∃ Y2, numT (LL.take (i + 1)) = Y2 := ⟨_, rfl⟩
        have HY2 := Lib.hid hY2
        rw [hY2] at z2
        clear hY2 HSN
        generalize numT (LL.take i) = Y1 at *
        go_wp2_with fail
        refine (HX.out _).mono ?_
        rintro e w5 ⟨rfl, hu5⟩
        go_wp2
        go_roundg (4 - (i + 1))
        · exact ⟨i + 1, by omega, rfl, by first | rfl | go_num, by rw [HY2.out], Lib.hid (HU3.out.then hu5)⟩
        · omega
      · have hi4 : i = 4 := by omega
        subst hi4
        have Z2 := Z.out
        rw [HGT.out]
        clear HGC HGE HGB HTL HG
        obtain ⟨z1, z2, z3, z4, z5, z6, z7⟩ := Z2
        generalize numT LL = X0 at *
        generalize X0 ++ W5 = X1 at *
        generalize X1 ++ [32] = X2 at *
        generalize X2 ++ W6 = X3 at *
        generalize X3 ++ [32] = X4 at *
        generalize X4 ++ W7 = X5 at *
        generalize X5 ++ [32] = X6 at *
        generalize X6 ++ W8 = X7 at *
        have HB3 := Lib.hid (HB2.out.upd HU3.out (by simp))
        have HU4 := Lib.hid (HU2.out.then HU3.out)
        clear HB2 HU2 HU3
        go_upto_region 9 with fail
        refine wp_region_held_drew (S := fun w' => Blk w' q0 [.string p, .int .i64 (m : Nat), .int .u32 (sum : Nat), .int .i64 (l : Nat), .int .i64 (wh : Nat), .int .i64 k, .int .i64 (md : Nat), .int .u32 (t : Nat), .int .i64 (pos : Nat)] 24 ∧ Upd [] w w') (by kernel_rfl) ⟨HB3.out, HU4.out.drew⟩ (fun hHeld => ?_)
        change wpAnyH _ _ _ _ _ 21 #[false, false, false, false, false, false, false, false, false, false, false, false, false, false, false, false, false, false, false, false, false] _ _
        refine heldTake (i := 0) (d := some 29) (v := ?v0_1) rfl rfl (by kernel_rfl) (by kernel_rfl) (by kernel_rfl) (fun _ _ _ h => h) (by rfl) ?hy0_1 (by assumption) ?r0_1
        case hy0_1 => (intro w hSw; (try dsimp only at hSw); go_simp; try with_reducible rfl)
        try simp only [Act.put, List.setIfInBounds_toArray, List.set_cons_zero, List.set_cons_succ]
        change wpAnyH _ _ _ _ _ 20 #[true, false, false, false, false, false, false, false, false, false, false, false, false, false, false, false, false, false, false, false, false] _ _
        refine heldTake (i := 1) (d := some 30) (v := ?v1_2) rfl rfl (by kernel_rfl) (by kernel_rfl) (by kernel_rfl) (fun _ _ _ h => h) (by rfl) ?hy1_2 (by assumption) ?r1_2
        case hy1_2 => (intro w hSw; (try dsimp only at hSw); go_simp; try with_reducible rfl)
        try simp only [Act.put, List.setIfInBounds_toArray, List.set_cons_zero, List.set_cons_succ]
        change wpAnyH _ _ _ _ _ 19 #[true, true, false, false, false, false, false, false, false, false, false, false, false, false, false, false, false, false, false, false, false] _ _
        refine heldTake (i := 2) (d := some 31) (v := ?v2_3) rfl rfl (by kernel_rfl) (by kernel_rfl) (by kernel_rfl) (fun _ _ _ h => h) (by rfl) ?hy2_3 (by assumption) ?r2_3
        case hy2_3 => (intro w5 hSw; have q0c := hSw.1.cell 2 rfl; go_simp; try with_reducible rfl)
        try simp only [Act.put, List.setIfInBounds_toArray, List.set_cons_zero, List.set_cons_succ]
        change wpAnyH _ _ _ _ _ 18 #[true, true, true, false, false, false, false, false, false, false, false, false, false, false, false, false, false, false, false, false, false] _ _
        refine heldTake (i := 6) (d := some 35) (v := ?v6_4) rfl rfl (by kernel_rfl) (by kernel_rfl) (by kernel_rfl) (fun _ _ _ h => h) (by rfl) ?hy6_4 (by assumption) ?r6_4
        case hy6_4 => (intro w hSw; (try dsimp only at hSw); go_simp; try with_reducible rfl)
        try simp only [Act.put, List.setIfInBounds_toArray, List.set_cons_zero, List.set_cons_succ]
        change wpAnyH _ _ _ _ _ 17 #[true, true, true, false, false, false, true, false, false, false, false, false, false, false, false, false, false, false, false, false, false] _ _
        refine heldTake (i := 7) (d := some 36) (v := ?v7_5) rfl rfl (by kernel_rfl) (by kernel_rfl) (by kernel_rfl) (fun _ _ _ h => h) (by rfl) ?hy7_5 (by assumption) ?r7_5
        case hy7_5 => (intro w5 hSw; have q0c := hSw.1.cell 6 rfl; go_simp; try with_reducible rfl)
        try simp only [Act.put, List.setIfInBounds_toArray, List.set_cons_zero, List.set_cons_succ]
        change wpAnyH _ _ _ _ _ 16 #[true, true, true, false, false, false, true, true, false, false, false, false, false, false, false, false, false, false, false, false, false] _ _
        refine heldTake (i := 11) (d := some 40) (v := ?v11_6) rfl rfl (by kernel_rfl) (by kernel_rfl) (by kernel_rfl) (fun _ _ _ h => h) (by rfl) ?hy11_6 (by assumption) ?r11_6
        case hy11_6 => (intro w hSw; (try dsimp only at hSw); go_simp; try with_reducible rfl)
        try simp only [Act.put, List.setIfInBounds_toArray, List.set_cons_zero, List.set_cons_succ]
        change wpAnyH _ _ _ _ _ 15 #[true, true, true, false, false, false, true, true, false, false, false, true, false, false, false, false, false, false, false, false, false] _ _
        refine heldTake (i := 12) (d := some 41) (v := ?v12_7) rfl rfl (by kernel_rfl) (by kernel_rfl) (by kernel_rfl) (fun _ _ _ h => h) (by rfl) ?hy12_7 (by assumption) ?r12_7
        case hy12_7 => (intro w5 hSw; have q0c := hSw.1.cell 7 rfl; go_simp; try with_reducible rfl)
        try simp only [Act.put, List.setIfInBounds_toArray, List.set_cons_zero, List.set_cons_succ]
        change wpAnyH _ _ _ _ _ 14 #[true, true, true, false, false, false, true, true, false, false, false, true, true, false, false, false, false, false, false, false, false] _ _
        refine heldTake (i := 17) (d := some 46) (v := ?v17_8) rfl rfl (by kernel_rfl) (by kernel_rfl) (by kernel_rfl) (fun _ _ _ h => h) (by rfl) ?hy17_8 (by assumption) ?r17_8
        case hy17_8 => (intro w5 hSw; have q0c := hSw.1.cell 0 rfl; have q1c := hSw.1.cell 1 rfl; have q2c := hSw.1.cell 2 rfl; have q3c := hSw.1.cell 3 rfl; have q4c := hSw.1.cell 4 rfl; have q5c := hSw.1.cell 5 rfl; have q6c := hSw.1.cell 6 rfl; have q7c := hSw.1.cell 7 rfl; have q8c := hSw.1.cell 8 rfl; go_simp; try with_reducible rfl)
        try simp only [Act.put, List.setIfInBounds_toArray, List.set_cons_zero, List.set_cons_succ]
        change wpAnyH _ _ _ _ _ 13 #[true, true, true, false, false, false, true, true, false, false, false, true, true, false, false, false, false, true, false, false, false] _ _
        refine wpAnyH_ready (rs := [3]) (by kernel_rfl) (by simp) ?_
        refine AllReadyH.cons rfl (fun K hK => ?_) AllReadyH.nil
        go_simp
        refine (H5.out _).mono ?_
        rintro e z9 ⟨rfl, hz9⟩
        go_wp2
        refine hK.out _ _ ⟨hHeld.1.upd hz9 (by simp), hHeld.2.then hz9⟩ (fun hHeld => ?_)
        clear hK K
        try simp only [Act.put, List.setIfInBounds_toArray, List.set_cons_zero, List.set_cons_succ]
        change wpAnyH _ _ _ _ _ 12 #[true, true, true, true, false, false, true, true, false, false, false, true, true, false, false, false, false, true, false, false, false] _ _
        refine heldTake (i := 4) (d := some 33) (v := ?v4_10) rfl rfl (by kernel_rfl) (by kernel_rfl) (by kernel_rfl) (fun _ _ _ h => h) (by rfl) ?hy4_10 (by assumption) ?r4_10
        case hy4_10 => (intro w hSw; (try dsimp only at hSw); go_simp; try with_reducible rfl)
        try simp only [Act.put, List.setIfInBounds_toArray, List.set_cons_zero, List.set_cons_succ]
        change wpAnyH _ _ _ _ _ 11 #[true, true, true, true, true, false, true, true, false, false, false, true, true, false, false, false, false, true, false, false, false] _ _
        refine heldTake (i := 5) (d := some 34) (v := ?v5_11) rfl rfl (by kernel_rfl) (by kernel_rfl) (by kernel_rfl) (fun _ _ _ h => h) (by rfl) ?hy5_11 (by assumption) ?r5_11
        case hy5_11 => (intro w hSw; (try dsimp only at hSw); go_simp; try with_reducible rfl)
        try simp only [Act.put, List.setIfInBounds_toArray, List.set_cons_zero, List.set_cons_succ]
        change wpAnyH _ _ _ _ _ 10 #[true, true, true, true, true, true, true, true, false, false, false, true, true, false, false, false, false, true, false, false, false] _ _
        refine wpAnyH_ready (rs := [8]) (by kernel_rfl) (by simp) ?_
        refine AllReadyH.cons rfl (fun K hK => ?_) AllReadyH.nil
        go_simp
        refine (H6.out _).mono ?_
        rintro e z9 ⟨rfl, hz9⟩
        go_wp2
        refine hK.out _ _ ⟨hHeld.1.upd hz9 (by simp), hHeld.2.then hz9⟩ (fun hHeld => ?_)
        clear hK K
        try simp only [Act.put, List.setIfInBounds_toArray, List.set_cons_zero, List.set_cons_succ]
        change wpAnyH _ _ _ _ _ 9 #[true, true, true, true, true, true, true, true, true, false, false, true, true, false, false, false, false, true, false, false, false] _ _
        refine heldTake (i := 9) (d := some 38) (v := ?v9_13) rfl rfl (by kernel_rfl) (by kernel_rfl) (by kernel_rfl) (fun _ _ _ h => h) (by rfl) ?hy9_13 (by assumption) ?r9_13
        case hy9_13 => (intro w hSw; (try dsimp only at hSw); go_simp; try with_reducible rfl)
        try simp only [Act.put, List.setIfInBounds_toArray, List.set_cons_zero, List.set_cons_succ]
        change wpAnyH _ _ _ _ _ 8 #[true, true, true, true, true, true, true, true, true, true, false, true, true, false, false, false, false, true, false, false, false] _ _
        refine heldTake (i := 10) (d := some 39) (v := ?v10_14) rfl rfl (by kernel_rfl) (by kernel_rfl) (by kernel_rfl) (fun _ _ _ h => h) (by rfl) ?hy10_14 (by assumption) ?r10_14
        case hy10_14 => (intro w hSw; (try dsimp only at hSw); go_simp; try with_reducible rfl)
        try simp only [Act.put, List.setIfInBounds_toArray, List.set_cons_zero, List.set_cons_succ]
        change wpAnyH _ _ _ _ _ 7 #[true, true, true, true, true, true, true, true, true, true, true, true, true, false, false, false, false, true, false, false, false] _ _
        refine wpAnyH_ready (rs := [13]) (by kernel_rfl) (by simp) ?_
        refine AllReadyH.cons rfl (fun K hK => ?_) AllReadyH.nil
        go_simp
        refine (HS.out _).mono ?_
        rintro e z9 ⟨rfl, hz9⟩
        go_wp2
        refine hK.out _ _ ⟨hHeld.1.upd hz9 (by simp), hHeld.2.then hz9⟩ (fun hHeld => ?_)
        clear hK K
        try simp only [Act.put, List.setIfInBounds_toArray, List.set_cons_zero, List.set_cons_succ]
        change wpAnyH _ _ _ _ _ 6 #[true, true, true, true, true, true, true, true, true, true, true, true, true, true, false, false, false, true, false, false, false] _ _
        refine wpAnyH_ready (rs := [14]) (by kernel_rfl) (by simp) ?_
        refine AllReadyH.cons rfl (fun K hK => ?_) AllReadyH.nil
        go_simp
        refine (HD.out _).mono ?_
        rintro e z9 ⟨rfl, hz9⟩
        go_wp2
        refine hK.out _ _ ⟨hHeld.1.upd hz9 (by simp), hHeld.2.then hz9⟩ (fun hHeld => ?_)
        clear hK K
        try simp only [Act.put, List.setIfInBounds_toArray, List.set_cons_zero, List.set_cons_succ]
        change wpAnyH _ _ _ _ _ 5 #[true, true, true, true, true, true, true, true, true, true, true, true, true, true, true, false, false, true, false, false, false] _ _
        refine heldTake (i := 15) (d := some 44) (v := ?v15_17) rfl rfl (by kernel_rfl) (by kernel_rfl) (by kernel_rfl) (fun _ _ _ h => h) (by rfl) ?hy15_17 (by assumption) ?r15_17
        case hy15_17 => (intro w hSw; (try dsimp only at hSw); go_simp; try with_reducible rfl)
        try simp only [Act.put, List.setIfInBounds_toArray, List.set_cons_zero, List.set_cons_succ]
        change wpAnyH _ _ _ _ _ 4 #[true, true, true, true, true, true, true, true, true, true, true, true, true, true, true, true, false, true, false, false, false] _ _
        refine heldTake (i := 16) (d := some 45) (v := ?v16_18) rfl rfl (by kernel_rfl) (by kernel_rfl) (by kernel_rfl) (fun _ _ _ h => h) (by rfl) ?hy16_18 (by assumption) ?r16_18
        case hy16_18 => (intro w hSw; (try dsimp only at hSw); go_simp; try with_reducible rfl)
        try simp only [Act.put, List.setIfInBounds_toArray, List.set_cons_zero, List.set_cons_succ]
        change wpAnyH _ _ _ _ _ 3 #[true, true, true, true, true, true, true, true, true, true, true, true, true, true, true, true, true, true, false, false, false] _ _
        refine wpAnyH_ready (rs := [18]) (by kernel_rfl) (by simp) ?_
        refine AllReadyH.cons rfl (fun K hK => ?_) AllReadyH.nil
        go_simp
        refine (HN.out _).mono ?_
        rintro e z9 ⟨rfl, hz9⟩
        go_wp2
        refine hK.out _ _ ⟨hHeld.1.upd hz9 (by simp), hHeld.2.then hz9⟩ (fun hHeld => ?_)
        clear hK K
        try simp only [Act.put, List.setIfInBounds_toArray, List.set_cons_zero, List.set_cons_succ]
        change wpAnyH _ _ _ _ _ 2 #[true, true, true, true, true, true, true, true, true, true, true, true, true, true, true, true, true, true, true, false, false] _ _
        refine heldTake (i := 19) (d := some 48) (v := ?v19_20) rfl rfl (by kernel_rfl) (by kernel_rfl) (by kernel_rfl) (fun _ _ _ h => h) (by rfl) ?hy19_20 (by assumption) ?r19_20
        case hy19_20 => (intro w hSw; (try dsimp only at hSw); go_simp; try with_reducible rfl)
        try simp only [Act.put, List.setIfInBounds_toArray, List.set_cons_zero, List.set_cons_succ]
        change wpAnyH _ _ _ _ _ 1 #[true, true, true, true, true, true, true, true, true, true, true, true, true, true, true, true, true, true, true, true, false] _ _
        refine heldTake (i := 20) (d := some 2) (v := ?v20_21) rfl rfl (by kernel_rfl) (by kernel_rfl) (by kernel_rfl) (fun _ _ _ h => h) (by rfl) ?hy20_21 (by assumption) ?r20_21
        case hy20_21 => (intro w hSw; (try dsimp only at hSw); go_simp; try with_reducible rfl)
        try simp only [Act.put, List.setIfInBounds_toArray, List.set_cons_zero, List.set_cons_succ]
        change wpAnyH _ _ _ _ _ 0 #[true, true, true, true, true, true, true, true, true, true, true, true, true, true, true, true, true, true, true, true, true] _ _
        refine wpAnyH_done (by kernel_rfl) ?_ 0
        go_wp2_with fail
        go_ret
        exact ⟨by rw [HV.out]; rfl, hHeld.2⟩
  · have HV : Hid (rowP r = []) := Lib.hid (if_pos hfb)
    have hne : ¬ ((recErr r : Nat) : Int) = 0 := by omega
    clear hfb
    generalize recErr r = EE at *
    generalize rowP r = TX at *
    obtain ⟨p, m, sum, l, wh, k, md, t, pos⟩ := r
    unfold RecD.v at HF ⊢
    dsimp only at HF ⊢
    go_enter Tryd.func7, Tryd.ntmps7
    go_wp2_with fail
    refine (HF.out _).mono ?_
    rintro e w1 ⟨rfl, hu1⟩
    go_wp2
    go_ret
    exact ⟨by rw [HV.out]; rfl, ((Upd.refl _ _).alloc _).then hu1⟩
end Go.Proofs.YtigjingielnaoaaDoor
