/- Package swingleref19: Write: its walk. -/
import Derived.Test.YtibmhadnfggmlaaDoorRRight
import Derived.Test.YtibmhadnfggmlaaDoorFldW
import Derived.Test.YtibmhadnfggmlaaDoorLocL
import Derived.Test.YtibmhadnfggmlaaDoorHeld
namespace Go.Proofs.YtibmhadnfggmlaaDoor
open Go.RowKit
set_option linter.unusedVariables false

theorem putI_any (i : Int) (n k : Nat) (w : World) (hi : i = (n : Int)) (hn : n < 18446744073709551616) (hk : k ≤ 8) : Calls Tryd.prog 86 #[.int .u64 i, .int .i64 (k : Nat)] w fun e w' => e = .returned (.string (strOf (leP n k))) ∧ Upd [] w w' := by
  rw [hi]; exact rput_any n k w hn hk
set_option maxRecDepth 100000 in
set_option maxHeartbeats 12800000 in
theorem rlocWrite_any (r : RecD) (w : World) (h : r.Fits) : Calls Tryd.prog 37 #[r.v] w fun e w' => e = .returned (.string (strOf (writeP r))) ∧ Upd [] w w' := by
  have hp := h.p
  have hs := h.sum
  have ht := h.t
  have HR := Lib.hid (fun w => rright19_any r w h)
  have HN := Lib.hid (fun w => rname19_any r w h)
  have hnl := nameP_len r.k r.p
  have HW : Hid (writeP r = if recErr r = 0 then headP r else []) := Lib.hid rfl
  have HH : Hid (headP r = [80, 75, 3, 4, 20, 0, 0, 8] ++ (leP r.m.toNat 2 ++ (leP r.t 4 ++ (leP r.sum 4 ++ (leP r.l.toNat 4 ++ (leP r.wh.toNat 4 ++ (leP (nameP r.k r.p).length 2 ++ ([0, 0] ++ nameP r.k r.p)))))))) := Lib.hid rfl
  have HPT := Lib.hid (fun h0 => laidB_parts (recErr_parts (r := r) h0).2.1)
  generalize headP r = hd at *
  generalize writeP r = wr at *
  by_cases hE : recErr r = 0
  rotate_left
  · rw [if_neg hE] at HW
    generalize recErr r = E at *
    obtain ⟨p, m, sum, l, wh, k, md, t, pos⟩ := r
    unfold RecD.v at *
    dsimp only at *
    have t1 : ((E : Int) != 0) = true := by simpa using hE
    go_enter Tryd.func37, Tryd.ntmps37
    go_wp2_with fail
    refine (HR.out _).mono ?_
    rintro e w1 ⟨rfl, hU1⟩
    have HU := Lib.hid (((Upd.refl [] w).alloc (.cells #[.string p, .int .i64 m, .int .u32 (sum : Nat), .int .i64 l, .int .i64 wh, .int .i64 k, .int .i64 md, .int .u32 (t : Nat), .int .i64 pos] 51)).then hU1)
    go_wp2_with fail
    go_ret
    exact ⟨by rw [HW.out]; rfl, HU.out⟩
  · rw [if_pos hE] at HW
    rw [hE] at HR
    obtain ⟨pm, pl, pw, pa⟩ := HPT.out hE
    clear hE HPT
    have hsz : (strOf (nameP r.k r.p)).size = (nameP r.k r.p).length := size_strOf _
    generalize hS : strOf (nameP r.k r.p) = S at *
    generalize hnm : nameP r.k r.p = nm at *
    obtain ⟨p, m, sum, l, wh, k, md, t, pos⟩ := r
    unfold RecD.v at *
    dsimp only at *
    obtain ⟨mn, rfl⟩ : ∃ mn : Nat, m = mn := ⟨m.toNat, by omega⟩
    obtain ⟨ln, rfl⟩ : ∃ ln : Nat, l = ln := ⟨l.toNat, by omega⟩
    obtain ⟨wn, rfl⟩ : ∃ wn : Nat, wh = wn := ⟨wh.toNat, by omega⟩
    simp only [Int.toNat_natCast] at HH
    have hmn : mn ≤ 8 := by omega
    have hln : ln < 2147483648 := by omega
    have hwn : wn < 2147483648 := by omega
    have hz : nm.length ≤ 1001 := by omega
    have HPM := Lib.hid (fun w => putI_any (mn : Nat) mn 2 w rfl (by omega) (by omega))
    have HPA := Lib.hid (fun w => putI_any ((IntKind.u64.wrap (t : Int)).tmod 65536) (t % 65536) 2 w (by rw [IntWalk.u64_in _ (by omega), Int.tmod_eq_emod_of_nonneg (by omega)]; omega) (by omega) (by omega))
    have HPB := Lib.hid (fun w => putI_any (IntKind.u64.wrap ((IntKind.u64.wrap (t : Int)).tdiv 65536)) (t / 65536) 2 w (by rw [show IntKind.u64.wrap (t : Int) = t from IntWalk.u64_in _ (by omega), Int.tdiv_eq_ediv_of_nonneg (by omega), IntWalk.u64_in _ (by omega)]; omega) (by omega) (by omega))
    have HPS := Lib.hid (fun w => putI_any (IntKind.u64.wrap (sum : Int)) sum 4 w (IntWalk.u64_in _ (by omega)) (by omega) (by omega))
    have HPL := Lib.hid (fun w => putI_any (IntKind.u64.wrap (ln : Int)) ln 4 w (IntWalk.u64_in _ (by omega)) (by omega) (by omega))
    have HPW := Lib.hid (fun w => putI_any (IntKind.u64.wrap (wn : Int)) wn 4 w (IntWalk.u64_in _ (by omega)) (by omega) (by omega))
    have HPN := Lib.hid (fun w => putI_any (IntKind.u64.wrap (nm.length : Int)) nm.length 2 w (IntWalk.u64_in _ (by omega)) (by omega) (by omega))
    have HFIN : Hid (((((({ data := #[80, 75, 3, 4, 20, 0, 0, 8] } : ByteArray) ++ strOf (leP mn 2)) ++ (strOf (leP (t % 65536) 2) ++ strOf (leP (t / 65536) 2))) ++ ((strOf (leP sum 4) ++ strOf (leP ln 4)) ++ strOf (leP wn 4))) ++ strOf (leP nm.length 2) ++ ({ data := #[0, 0] } : ByteArray) ++ S) = strOf hd) := Lib.hid (by
      rw [HH.out, ← hS, show ({ data := #[80, 75, 3, 4, 20, 0, 0, 8] } : ByteArray) = strOf [80, 75, 3, 4, 20, 0, 0, 8] from rfl, show ({ data := #[0, 0] } : ByteArray) = strOf [0, 0] from rfl]
      simp only [strOf_append]
      congr 1
      have e1 : leP t 4 = leP (t % 65536) 2 ++ leP (t / 65536) 2 := by
        have h1 := leP_add 2 2 t
        have h2 := leP_mod 2 t
        rw [h1, ← h2]
      rw [e1]
      simp only [List.append_assoc])
    have zM : (strOf (leP mn 2)).size = 2 := by rw [size_strOf, leP_len]
    have zA : (strOf (leP (t % 65536) 2)).size = 2 := by rw [size_strOf, leP_len]
    have zB : (strOf (leP (t / 65536) 2)).size = 2 := by rw [size_strOf, leP_len]
    have zS : (strOf (leP sum 4)).size = 4 := by rw [size_strOf, leP_len]
    have zL : (strOf (leP ln 4)).size = 4 := by rw [size_strOf, leP_len]
    have zW : (strOf (leP wn 4)).size = 4 := by rw [size_strOf, leP_len]
    have zN : (strOf (leP nm.length 2)).size = 2 := by rw [size_strOf, leP_len]
    clear pm pl pw pa hnm hS HH
    generalize strOf (leP mn 2) = M at *
    generalize strOf (leP (t % 65536) 2) = TA at *
    generalize strOf (leP (t / 65536) 2) = TB at *
    generalize strOf (leP sum 4) = SU at *
    generalize strOf (leP ln 4) = LA at *
    generalize strOf (leP wn 4) = WH at *
    generalize strOf (leP nm.length 2) = NL at *
    have hW1 : ByteArray.size ({ data := #[80, 75, 3, 4, 20, 0, 0, 8] } : ByteArray) = 8 := rfl
    have hW0 : ByteArray.size ({ data := #[0, 0] } : ByteArray) = 2 := rfl
    go_enter Tryd.func37, Tryd.ntmps37
    go_wp2_with fail
    refine (HR.out _).mono ?_
    rintro e w1 ⟨rfl, hU1⟩
    have hU := (((Upd.refl [] w).alloc (.cells #[.string p, .int .i64 mn, .int .u32 (sum : Nat), .int .i64 ln, .int .i64 wn, .int .i64 k, .int .i64 md, .int .u32 (t : Nat), .int .i64 pos] 51)).then hU1)
    have hB := (Blk.new w [.string p, .int .i64 mn, .int .u32 (sum : Nat), .int .i64 ln, .int .i64 wn, .int .i64 k, .int .i64 md, .int .u32 (t : Nat), .int .i64 pos] 51).upd hU1 (by simp)
    generalize w.heap.size = b0 at *
    have c1 := hB.cell 1 rfl
    go_wp2_with fail
    refine (HPM.out _).mono ?_
    rintro e w2 ⟨rfl, hU2⟩
    have hB2 := hB.upd hU2 (by simp)
    have hU3 := hU.then hU2
    clear hB hU hU1 hU2 c1
    go_wp2_with fail
    have zX1 : (({ data := #[80, 75, 3, 4, 20, 0, 0, 8] } : ByteArray) ++ M).size = 10 := by rw [ByteArray.size_append]; omega
    have zT1 : (TA ++ TB).size = 4 := by rw [ByteArray.size_append]; omega
    have a1 : ∀ W', (Op.stringOp .add TA TB).run Tryd.prog W' = .ok (.string (TA ++ TB)) W' := fun W' => run_string_add_sum _ _ _ (by omega)
    have a2 : ∀ W', (Op.stringOp .add (({ data := #[80, 75, 3, 4, 20, 0, 0, 8] } : ByteArray) ++ M) (TA ++ TB)).run Tryd.prog W' = .ok (.string ((({ data := #[80, 75, 3, 4, 20, 0, 0, 8] } : ByteArray) ++ M) ++ (TA ++ TB))) W' := fun W' => run_string_add_sum _ _ _ (by omega)
    refine wp_region_held_drew (S := fun w' => Blk w' b0 [.string p, .int .i64 mn, .int .u32 (sum : Nat), .int .i64 ln, .int .i64 wn, .int .i64 k, .int .i64 md, .int .u32 (t : Nat), .int .i64 pos] 51 ∧ Upd [] w w') (by kernel_rfl) ⟨hB2, hU3.drew⟩ (fun hHeld => ?_)
    change wpAnyH _ _ _ _ _ 14 #[false, false, false, false, false, false, false, false, false, false, false, false, false, false] _ _
    refine heldTake (i := 0) (d := some 13) (v := ?v0_1) rfl rfl (by kernel_rfl) (by kernel_rfl) (by kernel_rfl) (fun _ _ _ h => h) (by rfl) ?hy0_1 (by assumption) ?r0_1
    case hy0_1 => (intro w hSw; (try dsimp only at hSw); go_simp; try with_reducible rfl)
    try simp only [Act.put, List.setIfInBounds_toArray, List.set_cons_zero, List.set_cons_succ]
    change wpAnyH _ _ _ _ _ 13 #[true, false, false, false, false, false, false, false, false, false, false, false, false, false] _ _
    refine heldTake (i := 1) (d := some 14) (v := ?v1_2) rfl rfl (by kernel_rfl) (by kernel_rfl) (by kernel_rfl) (fun _ _ _ h => h) (by rfl) ?hy1_2 (by assumption) ?r1_2
    case hy1_2 => (intro w hSw; (try dsimp only at hSw); go_simp; try with_reducible rfl)
    try simp only [Act.put, List.setIfInBounds_toArray, List.set_cons_zero, List.set_cons_succ]
    change wpAnyH _ _ _ _ _ 12 #[true, true, false, false, false, false, false, false, false, false, false, false, false, false] _ _
    refine heldTake (i := 2) (d := some 15) (v := ?v2_3) rfl rfl (by kernel_rfl) (by kernel_rfl) (by kernel_rfl) (fun _ _ _ h => h) (by rfl) ?hy2_3 (by assumption) ?r2_3
    case hy2_3 => (intro w hSw; have q0 := hSw.1.cell 0 rfl; have q1 := hSw.1.cell 1 rfl; have q2 := hSw.1.cell 2 rfl; have q3 := hSw.1.cell 3 rfl; have q4 := hSw.1.cell 4 rfl; have q5 := hSw.1.cell 5 rfl; have q6 := hSw.1.cell 6 rfl; have q7 := hSw.1.cell 7 rfl; have q8 := hSw.1.cell 8 rfl; go_simp; try with_reducible rfl)
    try simp only [Act.put, List.setIfInBounds_toArray, List.set_cons_zero, List.set_cons_succ]
    change wpAnyH _ _ _ _ _ 11 #[true, true, true, false, false, false, false, false, false, false, false, false, false, false] _ _
    refine heldTake (i := 3) (d := some 16) (v := ?v3_4) rfl rfl (by kernel_rfl) (by kernel_rfl) (by kernel_rfl) (fun _ _ _ h => h) (by rfl) ?hy3_4 (by assumption) ?r3_4
    case hy3_4 => (intro w hSw; (try dsimp only at hSw); go_simp; try with_reducible rfl)
    try simp only [Act.put, List.setIfInBounds_toArray, List.set_cons_zero, List.set_cons_succ]
    change wpAnyH _ _ _ _ _ 10 #[true, true, true, true, false, false, false, false, false, false, false, false, false, false] _ _
    refine heldTake (i := 4) (d := some 17) (v := ?v4_5) rfl rfl (by kernel_rfl) (by kernel_rfl) (by kernel_rfl) (fun _ _ _ h => h) (by rfl) ?hy4_5 (by assumption) ?r4_5
    case hy4_5 => (intro w hSw; (try dsimp only at hSw); go_simp; try with_reducible rfl)
    try simp only [Act.put, List.setIfInBounds_toArray, List.set_cons_zero, List.set_cons_succ]
    change wpAnyH _ _ _ _ _ 9 #[true, true, true, true, true, false, false, false, false, false, false, false, false, false] _ _
    refine heldTake (i := 6) (d := some 19) (v := ?v6_6) rfl rfl (by kernel_rfl) (by kernel_rfl) (by kernel_rfl) (fun _ _ _ h => h) (by rfl) ?hy6_6 (by assumption) ?r6_6
    case hy6_6 => (intro w hSw; (try dsimp only at hSw); go_simp; try with_reducible rfl)
    try simp only [Act.put, List.setIfInBounds_toArray, List.set_cons_zero, List.set_cons_succ]
    change wpAnyH _ _ _ _ _ 8 #[true, true, true, true, true, false, true, false, false, false, false, false, false, false] _ _
    refine heldTake (i := 7) (d := some 20) (v := ?v7_7) rfl rfl (by kernel_rfl) (by kernel_rfl) (by kernel_rfl) (fun _ _ _ h => h) (by rfl) ?hy7_7 (by assumption) ?r7_7
    case hy7_7 => (intro w hSw; have q0 := hSw.1.cell 0 rfl; have q1 := hSw.1.cell 1 rfl; have q2 := hSw.1.cell 2 rfl; have q3 := hSw.1.cell 3 rfl; have q4 := hSw.1.cell 4 rfl; have q5 := hSw.1.cell 5 rfl; have q6 := hSw.1.cell 6 rfl; have q7 := hSw.1.cell 7 rfl; have q8 := hSw.1.cell 8 rfl; go_simp; try with_reducible rfl)
    try simp only [Act.put, List.setIfInBounds_toArray, List.set_cons_zero, List.set_cons_succ]
    change wpAnyH _ _ _ _ _ 7 #[true, true, true, true, true, false, true, true, false, false, false, false, false, false] _ _
    refine heldTake (i := 8) (d := some 21) (v := ?v8_8) rfl rfl (by kernel_rfl) (by kernel_rfl) (by kernel_rfl) (fun _ _ _ h => h) (by rfl) ?hy8_8 (by assumption) ?r8_8
    case hy8_8 => (intro w hSw; (try dsimp only at hSw); go_simp; try with_reducible rfl)
    try simp only [Act.put, List.setIfInBounds_toArray, List.set_cons_zero, List.set_cons_succ]
    change wpAnyH _ _ _ _ _ 6 #[true, true, true, true, true, false, true, true, true, false, false, false, false, false] _ _
    refine heldTake (i := 9) (d := some 22) (v := ?v9_9) rfl rfl (by kernel_rfl) (by kernel_rfl) (by kernel_rfl) (fun _ _ _ h => h) (by rfl) ?hy9_9 (by assumption) ?r9_9
    case hy9_9 => (intro w hSw; (try dsimp only at hSw); go_simp; try with_reducible rfl)
    try simp only [Act.put, List.setIfInBounds_toArray, List.set_cons_zero, List.set_cons_succ]
    change wpAnyH _ _ _ _ _ 5 #[true, true, true, true, true, false, true, true, true, true, false, false, false, false] _ _
    refine wpAnyH_ready (rs := [5]) (by kernel_rfl) (by simp) ?_
    refine AllReadyH.cons rfl (fun K hK => ?_) AllReadyH.nil
    go_simp
    refine (HPA.out _).mono ?_
    rintro e z1 ⟨rfl, hz1⟩
    have hS1 : Blk z1 b0 [.string p, .int .i64 mn, .int .u32 (sum : Nat), .int .i64 ln, .int .i64 wn, .int .i64 k, .int .i64 md, .int .u32 (t : Nat), .int .i64 pos] 51 ∧ Upd [] w z1 := ⟨hHeld.1.upd hz1 (by simp), hHeld.2.then hz1⟩
    go_wp2
    refine hK.out _ _ hS1 (fun hHeld => ?_)
    clear hK K
    try simp only [Act.put, List.setIfInBounds_toArray, List.set_cons_zero, List.set_cons_succ]
    change wpAnyH _ _ _ _ _ 4 #[true, true, true, true, true, true, true, true, true, true, false, false, false, false] _ _
    refine wpAnyH_ready (rs := [10]) (by kernel_rfl) (by simp) ?_
    refine AllReadyH.cons rfl (fun K hK => ?_) AllReadyH.nil
    go_simp
    refine (HPB.out _).mono ?_
    rintro e z2 ⟨rfl, hz2⟩
    have hS2 : Blk z2 b0 [.string p, .int .i64 mn, .int .u32 (sum : Nat), .int .i64 ln, .int .i64 wn, .int .i64 k, .int .i64 md, .int .u32 (t : Nat), .int .i64 pos] 51 ∧ Upd [] w z2 := ⟨hHeld.1.upd hz2 (by simp), hHeld.2.then hz2⟩
    go_wp2
    refine hK.out _ _ hS2 (fun hHeld => ?_)
    clear hK K
    try simp only [Act.put, List.setIfInBounds_toArray, List.set_cons_zero, List.set_cons_succ]
    change wpAnyH _ _ _ _ _ 3 #[true, true, true, true, true, true, true, true, true, true, true, false, false, false] _ _
    refine heldTake (i := 11) (d := some 24) (v := ?v11_12) rfl rfl (by kernel_rfl) (by kernel_rfl) (by kernel_rfl) (fun _ _ _ h => h) (by rfl) ?hy11_12 (by assumption) ?r11_12
    case hy11_12 => (intro w hSw; (try dsimp only at hSw); go_simp; try with_reducible rfl)
    try simp only [Act.put, List.setIfInBounds_toArray, List.set_cons_zero, List.set_cons_succ]
    change wpAnyH _ _ _ _ _ 2 #[true, true, true, true, true, true, true, true, true, true, true, true, false, false] _ _
    refine heldTake (i := 12) (d := some 25) (v := ?v12_13) rfl rfl (by kernel_rfl) (by kernel_rfl) (by kernel_rfl) (fun _ _ _ h => h) (by rfl) ?hy12_13 (by assumption) ?r12_13
    case hy12_13 => (intro w hSw; (try dsimp only at hSw); go_simp; try with_reducible rfl)
    try simp only [Act.put, List.setIfInBounds_toArray, List.set_cons_zero, List.set_cons_succ]
    change wpAnyH _ _ _ _ _ 1 #[true, true, true, true, true, true, true, true, true, true, true, true, true, false] _ _
    refine heldTake (i := 13) (d := some 3) (v := ?v13_14) rfl rfl (by kernel_rfl) (by kernel_rfl) (by kernel_rfl) (fun _ _ _ h => h) (by rfl) ?hy13_14 (by assumption) ?r13_14
    case hy13_14 => (intro w hSw; (try dsimp only at hSw); go_simp; try with_reducible rfl)
    try simp only [Act.put, List.setIfInBounds_toArray, List.set_cons_zero, List.set_cons_succ]
    change wpAnyH _ _ _ _ _ 0 #[true, true, true, true, true, true, true, true, true, true, true, true, true, true] _ _
    refine wpAnyH_done (by kernel_rfl) ?_ 0
    obtain ⟨hB5, hU5⟩ := hHeld
    go_wp2_with fail
    have zX2 : ((({ data := #[80, 75, 3, 4, 20, 0, 0, 8] } : ByteArray) ++ M) ++ (TA ++ TB)).size = 14 := by rw [ByteArray.size_append]; omega
    have zS1 : (SU ++ LA).size = 8 := by rw [ByteArray.size_append]; omega
    have zS2 : ((SU ++ LA) ++ WH).size = 12 := by rw [ByteArray.size_append]; omega
    have zX3 : (((({ data := #[80, 75, 3, 4, 20, 0, 0, 8] } : ByteArray) ++ M) ++ (TA ++ TB)) ++ ((SU ++ LA) ++ WH)).size = 26 := by rw [ByteArray.size_append]; omega
    have a3 : ∀ W', (Op.stringOp .add SU LA).run Tryd.prog W' = .ok (.string (SU ++ LA)) W' := fun W' => run_string_add_sum _ _ _ (by omega)
    have a4 : ∀ W', (Op.stringOp .add (SU ++ LA) WH).run Tryd.prog W' = .ok (.string ((SU ++ LA) ++ WH)) W' := fun W' => run_string_add_sum _ _ _ (by omega)
    have a5 : ∀ W', (Op.stringOp .add ((({ data := #[80, 75, 3, 4, 20, 0, 0, 8] } : ByteArray) ++ M) ++ (TA ++ TB)) ((SU ++ LA) ++ WH)).run Tryd.prog W' = .ok (.string (((({ data := #[80, 75, 3, 4, 20, 0, 0, 8] } : ByteArray) ++ M) ++ (TA ++ TB)) ++ ((SU ++ LA) ++ WH))) W' := fun W' => run_string_add_sum _ _ _ (by omega)
    refine wp_region_held_drew (S := fun w' => Blk w' b0 [.string p, .int .i64 mn, .int .u32 (sum : Nat), .int .i64 ln, .int .i64 wn, .int .i64 k, .int .i64 md, .int .u32 (t : Nat), .int .i64 pos] 51 ∧ Upd [] w w') (by kernel_rfl) ⟨hB5, hU5.drew⟩ (fun hHeld => ?_)
    change wpAnyH _ _ _ _ _ 17 #[false, false, false, false, false, false, false, false, false, false, false, false, false, false, false, false, false] _ _
    refine heldTake (i := 0) (d := some 26) (v := ?v0_15) rfl rfl (by kernel_rfl) (by kernel_rfl) (by kernel_rfl) (fun _ _ _ h => h) (by rfl) ?hy0_15 (by assumption) ?r0_15
    case hy0_15 => (intro w hSw; (try dsimp only at hSw); go_simp; try with_reducible rfl)
    try simp only [Act.put, List.setIfInBounds_toArray, List.set_cons_zero, List.set_cons_succ]
    change wpAnyH _ _ _ _ _ 16 #[true, false, false, false, false, false, false, false, false, false, false, false, false, false, false, false, false] _ _
    refine heldTake (i := 1) (d := some 27) (v := ?v1_16) rfl rfl (by kernel_rfl) (by kernel_rfl) (by kernel_rfl) (fun _ _ _ h => h) (by rfl) ?hy1_16 (by assumption) ?r1_16
    case hy1_16 => (intro w hSw; (try dsimp only at hSw); go_simp; try with_reducible rfl)
    try simp only [Act.put, List.setIfInBounds_toArray, List.set_cons_zero, List.set_cons_succ]
    change wpAnyH _ _ _ _ _ 15 #[true, true, false, false, false, false, false, false, false, false, false, false, false, false, false, false, false] _ _
    refine heldTake (i := 2) (d := some 28) (v := ?v2_17) rfl rfl (by kernel_rfl) (by kernel_rfl) (by kernel_rfl) (fun _ _ _ h => h) (by rfl) ?hy2_17 (by assumption) ?r2_17
    case hy2_17 => (intro w hSw; have q0 := hSw.1.cell 0 rfl; have q1 := hSw.1.cell 1 rfl; have q2 := hSw.1.cell 2 rfl; have q3 := hSw.1.cell 3 rfl; have q4 := hSw.1.cell 4 rfl; have q5 := hSw.1.cell 5 rfl; have q6 := hSw.1.cell 6 rfl; have q7 := hSw.1.cell 7 rfl; have q8 := hSw.1.cell 8 rfl; go_simp; try with_reducible rfl)
    try simp only [Act.put, List.setIfInBounds_toArray, List.set_cons_zero, List.set_cons_succ]
    change wpAnyH _ _ _ _ _ 14 #[true, true, true, false, false, false, false, false, false, false, false, false, false, false, false, false, false] _ _
    refine heldTake (i := 3) (d := some 29) (v := ?v3_18) rfl rfl (by kernel_rfl) (by kernel_rfl) (by kernel_rfl) (fun _ _ _ h => h) (by rfl) ?hy3_18 (by assumption) ?r3_18
    case hy3_18 => (intro w hSw; (try dsimp only at hSw); go_simp; try with_reducible rfl)
    try simp only [Act.put, List.setIfInBounds_toArray, List.set_cons_zero, List.set_cons_succ]
    change wpAnyH _ _ _ _ _ 13 #[true, true, true, true, false, false, false, false, false, false, false, false, false, false, false, false, false] _ _
    refine heldTake (i := 5) (d := some 31) (v := ?v5_19) rfl rfl (by kernel_rfl) (by kernel_rfl) (by kernel_rfl) (fun _ _ _ h => h) (by rfl) ?hy5_19 (by assumption) ?r5_19
    case hy5_19 => (intro w hSw; (try dsimp only at hSw); go_simp; try with_reducible rfl)
    try simp only [Act.put, List.setIfInBounds_toArray, List.set_cons_zero, List.set_cons_succ]
    change wpAnyH _ _ _ _ _ 12 #[true, true, true, true, false, true, false, false, false, false, false, false, false, false, false, false, false] _ _
    refine heldTake (i := 6) (d := some 32) (v := ?v6_20) rfl rfl (by kernel_rfl) (by kernel_rfl) (by kernel_rfl) (fun _ _ _ h => h) (by rfl) ?hy6_20 (by assumption) ?r6_20
    case hy6_20 => (intro w hSw; have q0 := hSw.1.cell 0 rfl; have q1 := hSw.1.cell 1 rfl; have q2 := hSw.1.cell 2 rfl; have q3 := hSw.1.cell 3 rfl; have q4 := hSw.1.cell 4 rfl; have q5 := hSw.1.cell 5 rfl; have q6 := hSw.1.cell 6 rfl; have q7 := hSw.1.cell 7 rfl; have q8 := hSw.1.cell 8 rfl; go_simp; try with_reducible rfl)
    try simp only [Act.put, List.setIfInBounds_toArray, List.set_cons_zero, List.set_cons_succ]
    change wpAnyH _ _ _ _ _ 11 #[true, true, true, true, false, true, true, false, false, false, false, false, false, false, false, false, false] _ _
    refine heldTake (i := 7) (d := some 33) (v := ?v7_21) rfl rfl (by kernel_rfl) (by kernel_rfl) (by kernel_rfl) (fun _ _ _ h => h) (by rfl) ?hy7_21 (by assumption) ?r7_21
    case hy7_21 => (intro w hSw; (try dsimp only at hSw); go_simp; try with_reducible rfl)
    try simp only [Act.put, List.setIfInBounds_toArray, List.set_cons_zero, List.set_cons_succ]
    change wpAnyH _ _ _ _ _ 10 #[true, true, true, true, false, true, true, true, false, false, false, false, false, false, false, false, false] _ _
    refine heldTake (i := 10) (d := some 36) (v := ?v10_22) rfl rfl (by kernel_rfl) (by kernel_rfl) (by kernel_rfl) (fun _ _ _ h => h) (by rfl) ?hy10_22 (by assumption) ?r10_22
    case hy10_22 => (intro w hSw; (try dsimp only at hSw); go_simp; try with_reducible rfl)
    try simp only [Act.put, List.setIfInBounds_toArray, List.set_cons_zero, List.set_cons_succ]
    change wpAnyH _ _ _ _ _ 9 #[true, true, true, true, false, true, true, true, false, false, true, false, false, false, false, false, false] _ _
    refine heldTake (i := 11) (d := some 37) (v := ?v11_23) rfl rfl (by kernel_rfl) (by kernel_rfl) (by kernel_rfl) (fun _ _ _ h => h) (by rfl) ?hy11_23 (by assumption) ?r11_23
    case hy11_23 => (intro w hSw; have q0 := hSw.1.cell 0 rfl; have q1 := hSw.1.cell 1 rfl; have q2 := hSw.1.cell 2 rfl; have q3 := hSw.1.cell 3 rfl; have q4 := hSw.1.cell 4 rfl; have q5 := hSw.1.cell 5 rfl; have q6 := hSw.1.cell 6 rfl; have q7 := hSw.1.cell 7 rfl; have q8 := hSw.1.cell 8 rfl; go_simp; try with_reducible rfl)
    try simp only [Act.put, List.setIfInBounds_toArray, List.set_cons_zero, List.set_cons_succ]
    change wpAnyH _ _ _ _ _ 8 #[true, true, true, true, false, true, true, true, false, false, true, true, false, false, false, false, false] _ _
    refine heldTake (i := 12) (d := some 38) (v := ?v12_24) rfl rfl (by kernel_rfl) (by kernel_rfl) (by kernel_rfl) (fun _ _ _ h => h) (by rfl) ?hy12_24 (by assumption) ?r12_24
    case hy12_24 => (intro w hSw; (try dsimp only at hSw); go_simp; try with_reducible rfl)
    try simp only [Act.put, List.setIfInBounds_toArray, List.set_cons_zero, List.set_cons_succ]
    change wpAnyH _ _ _ _ _ 7 #[true, true, true, true, false, true, true, true, false, false, true, true, true, false, false, false, false] _ _
    refine wpAnyH_ready (rs := [4]) (by kernel_rfl) (by simp) ?_
    refine AllReadyH.cons rfl (fun K hK => ?_) AllReadyH.nil
    go_simp
    refine (HPS.out _).mono ?_
    rintro e z3 ⟨rfl, hz3⟩
    have hS3 : Blk z3 b0 [.string p, .int .i64 mn, .int .u32 (sum : Nat), .int .i64 ln, .int .i64 wn, .int .i64 k, .int .i64 md, .int .u32 (t : Nat), .int .i64 pos] 51 ∧ Upd [] w z3 := ⟨hHeld.1.upd hz3 (by simp), hHeld.2.then hz3⟩
    go_wp2
    refine hK.out _ _ hS3 (fun hHeld => ?_)
    clear hK K
    try simp only [Act.put, List.setIfInBounds_toArray, List.set_cons_zero, List.set_cons_succ]
    change wpAnyH _ _ _ _ _ 6 #[true, true, true, true, true, true, true, true, false, false, true, true, true, false, false, false, false] _ _
    refine wpAnyH_ready (rs := [8]) (by kernel_rfl) (by simp) ?_
    refine AllReadyH.cons rfl (fun K hK => ?_) AllReadyH.nil
    go_simp
    refine (HPL.out _).mono ?_
    rintro e z4 ⟨rfl, hz4⟩
    have hS4 : Blk z4 b0 [.string p, .int .i64 mn, .int .u32 (sum : Nat), .int .i64 ln, .int .i64 wn, .int .i64 k, .int .i64 md, .int .u32 (t : Nat), .int .i64 pos] 51 ∧ Upd [] w z4 := ⟨hHeld.1.upd hz4 (by simp), hHeld.2.then hz4⟩
    go_wp2
    refine hK.out _ _ hS4 (fun hHeld => ?_)
    clear hK K
    try simp only [Act.put, List.setIfInBounds_toArray, List.set_cons_zero, List.set_cons_succ]
    change wpAnyH _ _ _ _ _ 5 #[true, true, true, true, true, true, true, true, true, false, true, true, true, false, false, false, false] _ _
    refine heldTake (i := 9) (d := some 35) (v := ?v9_27) rfl rfl (by kernel_rfl) (by kernel_rfl) (by kernel_rfl) (fun _ _ _ h => h) (by rfl) ?hy9_27 (by assumption) ?r9_27
    case hy9_27 => (intro w hSw; (try dsimp only at hSw); go_simp; try with_reducible rfl)
    try simp only [Act.put, List.setIfInBounds_toArray, List.set_cons_zero, List.set_cons_succ]
    change wpAnyH _ _ _ _ _ 4 #[true, true, true, true, true, true, true, true, true, true, true, true, true, false, false, false, false] _ _
    refine wpAnyH_ready (rs := [13]) (by kernel_rfl) (by simp) ?_
    refine AllReadyH.cons rfl (fun K hK => ?_) AllReadyH.nil
    go_simp
    refine (HPW.out _).mono ?_
    rintro e z5 ⟨rfl, hz5⟩
    have hS5 : Blk z5 b0 [.string p, .int .i64 mn, .int .u32 (sum : Nat), .int .i64 ln, .int .i64 wn, .int .i64 k, .int .i64 md, .int .u32 (t : Nat), .int .i64 pos] 51 ∧ Upd [] w z5 := ⟨hHeld.1.upd hz5 (by simp), hHeld.2.then hz5⟩
    go_wp2
    refine hK.out _ _ hS5 (fun hHeld => ?_)
    clear hK K
    try simp only [Act.put, List.setIfInBounds_toArray, List.set_cons_zero, List.set_cons_succ]
    change wpAnyH _ _ _ _ _ 3 #[true, true, true, true, true, true, true, true, true, true, true, true, true, true, false, false, false] _ _
    refine heldTake (i := 14) (d := some 40) (v := ?v14_29) rfl rfl (by kernel_rfl) (by kernel_rfl) (by kernel_rfl) (fun _ _ _ h => h) (by rfl) ?hy14_29 (by assumption) ?r14_29
    case hy14_29 => (intro w hSw; (try dsimp only at hSw); go_simp; try with_reducible rfl)
    try simp only [Act.put, List.setIfInBounds_toArray, List.set_cons_zero, List.set_cons_succ]
    change wpAnyH _ _ _ _ _ 2 #[true, true, true, true, true, true, true, true, true, true, true, true, true, true, true, false, false] _ _
    refine heldTake (i := 15) (d := some 41) (v := ?v15_30) rfl rfl (by kernel_rfl) (by kernel_rfl) (by kernel_rfl) (fun _ _ _ h => h) (by rfl) ?hy15_30 (by assumption) ?r15_30
    case hy15_30 => (intro w hSw; (try dsimp only at hSw); go_simp; try with_reducible rfl)
    try simp only [Act.put, List.setIfInBounds_toArray, List.set_cons_zero, List.set_cons_succ]
    change wpAnyH _ _ _ _ _ 1 #[true, true, true, true, true, true, true, true, true, true, true, true, true, true, true, true, false] _ _
    refine heldTake (i := 16) (d := some 3) (v := ?v16_31) rfl rfl (by kernel_rfl) (by kernel_rfl) (by kernel_rfl) (fun _ _ _ h => h) (by rfl) ?hy16_31 (by assumption) ?r16_31
    case hy16_31 => (intro w hSw; (try dsimp only at hSw); go_simp; try with_reducible rfl)
    try simp only [Act.put, List.setIfInBounds_toArray, List.set_cons_zero, List.set_cons_succ]
    change wpAnyH _ _ _ _ _ 0 #[true, true, true, true, true, true, true, true, true, true, true, true, true, true, true, true, true] _ _
    refine wpAnyH_done (by kernel_rfl) ?_ 0
    obtain ⟨hB6, hU6⟩ := hHeld
    go_wp2_with fail
    have zX4 : ((((({ data := #[80, 75, 3, 4, 20, 0, 0, 8] } : ByteArray) ++ M) ++ (TA ++ TB)) ++ ((SU ++ LA) ++ WH)) ++ NL).size = 28 := by rw [ByteArray.size_append]; omega
    have zX5 : (((((({ data := #[80, 75, 3, 4, 20, 0, 0, 8] } : ByteArray) ++ M) ++ (TA ++ TB)) ++ ((SU ++ LA) ++ WH)) ++ NL) ++ ({ data := #[0, 0] } : ByteArray)).size = 30 := by rw [ByteArray.size_append]; omega
    have a6 : ∀ W', (Op.stringOp .add (((({ data := #[80, 75, 3, 4, 20, 0, 0, 8] } : ByteArray) ++ M) ++ (TA ++ TB)) ++ ((SU ++ LA) ++ WH)) NL).run Tryd.prog W' = .ok (.string ((((({ data := #[80, 75, 3, 4, 20, 0, 0, 8] } : ByteArray) ++ M) ++ (TA ++ TB)) ++ ((SU ++ LA) ++ WH)) ++ NL)) W' := fun W' => run_string_add_sum _ _ _ (by omega)
    have a7 : ∀ W', (Op.stringOp .add ((((({ data := #[80, 75, 3, 4, 20, 0, 0, 8] } : ByteArray) ++ M) ++ (TA ++ TB)) ++ ((SU ++ LA) ++ WH)) ++ NL) ({ data := #[0, 0] } : ByteArray)).run Tryd.prog W' = .ok (.string (((((({ data := #[80, 75, 3, 4, 20, 0, 0, 8] } : ByteArray) ++ M) ++ (TA ++ TB)) ++ ((SU ++ LA) ++ WH)) ++ NL) ++ ({ data := #[0, 0] } : ByteArray))) W' := fun W' => run_string_add_sum _ _ _ (by omega)
    have a8 : ∀ W', (Op.stringOp .add (((((({ data := #[80, 75, 3, 4, 20, 0, 0, 8] } : ByteArray) ++ M) ++ (TA ++ TB)) ++ ((SU ++ LA) ++ WH)) ++ NL) ++ ({ data := #[0, 0] } : ByteArray)) S).run Tryd.prog W' = .ok (.string ((((((({ data := #[80, 75, 3, 4, 20, 0, 0, 8] } : ByteArray) ++ M) ++ (TA ++ TB)) ++ ((SU ++ LA) ++ WH)) ++ NL) ++ ({ data := #[0, 0] } : ByteArray)) ++ S)) W' := fun W' => run_string_add_sum _ _ _ (by omega)
    refine wp_region_held_drew (S := fun w' => Blk w' b0 [.string p, .int .i64 mn, .int .u32 (sum : Nat), .int .i64 ln, .int .i64 wn, .int .i64 k, .int .i64 md, .int .u32 (t : Nat), .int .i64 pos] 51 ∧ Upd [] w w') (by kernel_rfl) ⟨hB6, hU6.drew⟩ (fun hHeld => ?_)
    change wpAnyH _ _ _ _ _ 12 #[false, false, false, false, false, false, false, false, false, false, false, false] _ _
    refine heldTake (i := 0) (d := some 42) (v := ?v0_32) rfl rfl (by kernel_rfl) (by kernel_rfl) (by kernel_rfl) (fun _ _ _ h => h) (by rfl) ?hy0_32 (by assumption) ?r0_32
    case hy0_32 => (intro w hSw; (try dsimp only at hSw); go_simp; try with_reducible rfl)
    try simp only [Act.put, List.setIfInBounds_toArray, List.set_cons_zero, List.set_cons_succ]
    change wpAnyH _ _ _ _ _ 11 #[true, false, false, false, false, false, false, false, false, false, false, false] _ _
    refine heldTake (i := 1) (d := some 43) (v := ?v1_33) rfl rfl (by kernel_rfl) (by kernel_rfl) (by kernel_rfl) (fun _ _ _ h => h) (by rfl) ?hy1_33 (by assumption) ?r1_33
    case hy1_33 => (intro w hSw; have q0 := hSw.1.cell 0 rfl; have q1 := hSw.1.cell 1 rfl; have q2 := hSw.1.cell 2 rfl; have q3 := hSw.1.cell 3 rfl; have q4 := hSw.1.cell 4 rfl; have q5 := hSw.1.cell 5 rfl; have q6 := hSw.1.cell 6 rfl; have q7 := hSw.1.cell 7 rfl; have q8 := hSw.1.cell 8 rfl; go_simp; try with_reducible rfl)
    try simp only [Act.put, List.setIfInBounds_toArray, List.set_cons_zero, List.set_cons_succ]
    change wpAnyH _ _ _ _ _ 10 #[true, true, false, false, false, false, false, false, false, false, false, false] _ _
    refine heldTake (i := 8) (d := some 50) (v := ?v8_34) rfl rfl (by kernel_rfl) (by kernel_rfl) (by kernel_rfl) (fun _ _ _ h => h) (by rfl) ?hy8_34 (by assumption) ?r8_34
    case hy8_34 => (intro w hSw; have q0 := hSw.1.cell 0 rfl; have q1 := hSw.1.cell 1 rfl; have q2 := hSw.1.cell 2 rfl; have q3 := hSw.1.cell 3 rfl; have q4 := hSw.1.cell 4 rfl; have q5 := hSw.1.cell 5 rfl; have q6 := hSw.1.cell 6 rfl; have q7 := hSw.1.cell 7 rfl; have q8 := hSw.1.cell 8 rfl; go_simp; try with_reducible rfl)
    try simp only [Act.put, List.setIfInBounds_toArray, List.set_cons_zero, List.set_cons_succ]
    change wpAnyH _ _ _ _ _ 9 #[true, true, false, false, false, false, false, false, true, false, false, false] _ _
    refine wpAnyH_ready (rs := [2]) (by kernel_rfl) (by simp) ?_
    refine AllReadyH.cons rfl (fun K hK => ?_) AllReadyH.nil
    go_simp
    refine (HN.out _).mono ?_
    rintro e z6 ⟨rfl, hz6⟩
    have hS6 : Blk z6 b0 [.string p, .int .i64 mn, .int .u32 (sum : Nat), .int .i64 ln, .int .i64 wn, .int .i64 k, .int .i64 md, .int .u32 (t : Nat), .int .i64 pos] 51 ∧ Upd [] w z6 := ⟨hHeld.1.upd hz6 (by simp), hHeld.2.then hz6⟩
    go_wp2
    refine hK.out _ _ hS6 (fun hHeld => ?_)
    clear hK K
    try simp only [Act.put, List.setIfInBounds_toArray, List.set_cons_zero, List.set_cons_succ]
    change wpAnyH _ _ _ _ _ 8 #[true, true, true, false, false, false, false, false, true, false, false, false] _ _
    refine heldTake (i := 3) (d := some 45) (v := ?v3_36) rfl rfl (by kernel_rfl) (by kernel_rfl) (by kernel_rfl) (fun _ _ _ h => h) (by rfl) ?hy3_36 (by assumption) ?r3_36
    case hy3_36 => (intro w hSw; (try dsimp only at hSw); go_simp; try with_reducible rfl)
    try simp only [Act.put, List.setIfInBounds_toArray, List.set_cons_zero, List.set_cons_succ]
    change wpAnyH _ _ _ _ _ 7 #[true, true, true, true, false, false, false, false, true, false, false, false] _ _
    refine heldTake (i := 4) (d := some 46) (v := ?v4_37) rfl rfl (by kernel_rfl) (by kernel_rfl) (by kernel_rfl) (fun _ _ _ h => h) (by rfl) ?hy4_37 (by assumption) ?r4_37
    case hy4_37 => (intro w hSw; (try dsimp only at hSw); go_simp; try with_reducible rfl)
    try simp only [Act.put, List.setIfInBounds_toArray, List.set_cons_zero, List.set_cons_succ]
    change wpAnyH _ _ _ _ _ 6 #[true, true, true, true, true, false, false, false, true, false, false, false] _ _
    refine wpAnyH_ready (rs := [5]) (by kernel_rfl) (by simp) ?_
    refine AllReadyH.cons rfl (fun K hK => ?_) AllReadyH.nil
    go_simp
    refine (HPN.out _).mono ?_
    rintro e z7 ⟨rfl, hz7⟩
    have hS7 : Blk z7 b0 [.string p, .int .i64 mn, .int .u32 (sum : Nat), .int .i64 ln, .int .i64 wn, .int .i64 k, .int .i64 md, .int .u32 (t : Nat), .int .i64 pos] 51 ∧ Upd [] w z7 := ⟨hHeld.1.upd hz7 (by simp), hHeld.2.then hz7⟩
    go_wp2
    refine hK.out _ _ hS7 (fun hHeld => ?_)
    clear hK K
    try simp only [Act.put, List.setIfInBounds_toArray, List.set_cons_zero, List.set_cons_succ]
    change wpAnyH _ _ _ _ _ 5 #[true, true, true, true, true, true, false, false, true, false, false, false] _ _
    refine heldTake (i := 6) (d := some 48) (v := ?v6_39) rfl rfl (by kernel_rfl) (by kernel_rfl) (by kernel_rfl) (fun _ _ _ h => h) (by rfl) ?hy6_39 (by assumption) ?r6_39
    case hy6_39 => (intro w hSw; (try dsimp only at hSw); go_simp; try with_reducible rfl)
    try simp only [Act.put, List.setIfInBounds_toArray, List.set_cons_zero, List.set_cons_succ]
    change wpAnyH _ _ _ _ _ 4 #[true, true, true, true, true, true, true, false, true, false, false, false] _ _
    refine heldTake (i := 7) (d := some 49) (v := ?v7_40) rfl rfl (by kernel_rfl) (by kernel_rfl) (by kernel_rfl) (fun _ _ _ h => h) (by rfl) ?hy7_40 (by assumption) ?r7_40
    case hy7_40 => (intro w hSw; (try dsimp only at hSw); go_simp; try with_reducible rfl)
    try simp only [Act.put, List.setIfInBounds_toArray, List.set_cons_zero, List.set_cons_succ]
    change wpAnyH _ _ _ _ _ 3 #[true, true, true, true, true, true, true, true, true, false, false, false] _ _
    refine wpAnyH_ready (rs := [9]) (by kernel_rfl) (by simp) ?_
    refine AllReadyH.cons rfl (fun K hK => ?_) AllReadyH.nil
    go_simp
    refine (HN.out _).mono ?_
    rintro e z8 ⟨rfl, hz8⟩
    have hS8 : Blk z8 b0 [.string p, .int .i64 mn, .int .u32 (sum : Nat), .int .i64 ln, .int .i64 wn, .int .i64 k, .int .i64 md, .int .u32 (t : Nat), .int .i64 pos] 51 ∧ Upd [] w z8 := ⟨hHeld.1.upd hz8 (by simp), hHeld.2.then hz8⟩
    go_wp2
    refine hK.out _ _ hS8 (fun hHeld => ?_)
    clear hK K
    try simp only [Act.put, List.setIfInBounds_toArray, List.set_cons_zero, List.set_cons_succ]
    change wpAnyH _ _ _ _ _ 2 #[true, true, true, true, true, true, true, true, true, true, false, false] _ _
    refine heldTake (i := 10) (d := some 52) (v := ?v10_42) rfl rfl (by kernel_rfl) (by kernel_rfl) (by kernel_rfl) (fun _ _ _ h => h) (by rfl) ?hy10_42 (by assumption) ?r10_42
    case hy10_42 => (intro w hSw; (try dsimp only at hSw); go_simp; try with_reducible rfl)
    try simp only [Act.put, List.setIfInBounds_toArray, List.set_cons_zero, List.set_cons_succ]
    change wpAnyH _ _ _ _ _ 1 #[true, true, true, true, true, true, true, true, true, true, true, false] _ _
    refine heldTake (i := 11) (d := some 2) (v := ?v11_43) rfl rfl (by kernel_rfl) (by kernel_rfl) (by kernel_rfl) (fun _ _ _ h => h) (by rfl) ?hy11_43 (by assumption) ?r11_43
    case hy11_43 => (intro w hSw; (try dsimp only at hSw); go_simp; try with_reducible rfl)
    try simp only [Act.put, List.setIfInBounds_toArray, List.set_cons_zero, List.set_cons_succ]
    change wpAnyH _ _ _ _ _ 0 #[true, true, true, true, true, true, true, true, true, true, true, true] _ _
    refine wpAnyH_done (by kernel_rfl) ?_ 0
    have hUF := hHeld.2
    go_wp2_with fail
    go_ret
    exact ⟨by rw [HW.out, ← HFIN.out]; rfl, hUF⟩
end Go.Proofs.YtibmhadnfggmlaaDoor
