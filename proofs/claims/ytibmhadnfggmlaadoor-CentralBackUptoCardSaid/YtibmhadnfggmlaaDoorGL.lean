/- Package central: attr, Write, Size: walks. -/
import Derived.Test.YtibmhadnfggmlaaDoorCenK
import Derived.Test.YtibmhadnfggmlaaDoorGA
import Derived.Test.YtibmhadnfggmlaaDoorLocW
namespace Go.Proofs.YtibmhadnfggmlaaDoor
set_option linter.unusedVariables false
set_option linter.unusedSimpArgs false
set_option linter.unusedSectionVars false
open Go.RowKit
set_option linter.unusedVariables false

set_option maxRecDepth 100000 in
set_option maxHeartbeats 1600000 in
theorem attr_any (p : ByteArray) (m : Int) (sum : Nat) (l wh k : Int) (mdn t : Nat) (pos : Int) (hmd : mdn ≤ 511) (w : World) :
    Calls Tryd.prog 97 #[.agg #[.string p, .int .i64 m, .int .u32 (sum : Nat), .int .i64 l, .int .i64 wh, .int .i64 k, .int .i64 (mdn : Nat), .int .u32 (t : Nat), .int .i64 pos]] w fun e w' => e = .returned (.int .i64 (attrP k mdn : Nat)) ∧ Upd [] w w' := by
  have HK := Lib.hid (fun w => kind_any k w)
  by_cases hk : k = 2
  · subst hk
    rw [if_pos rfl] at HK
    have HO := or_kind mdn hmd 16384 (.inl rfl)
    have HA : Hid (attrP 2 mdn = (mdn + 16384) * 65536 + 16) := Lib.hid rfl
    have HD := or_dir (mdn + 16384) (by omega)
    have HO' : bits .or .i64 (mdn : Int) 16384 = ((mdn + 16384 : Nat) : Int) := HO
    go_enter Tryd.func97, Tryd.ntmps97
    go_wp2
    go_quiet ((go_at_call 100; exact Calls.quiet_of_same ((HK.out _).mono fun _ _ ⟨h1, h2⟩ => ⟨h1, h2.symm⟩)))
    go_wp2
    go_ret
    refine ⟨?_, ((Upd.refl [] w).alloc _).drewN _⟩
    rw [HA.out]
    have HD' : bits .or .i64 (((mdn : Int) + 16384) * 65536) 16 = (((mdn + 16384) * 65536 + 16 : Nat) : Int) := by rw [← HD]; congr 1
    exact congrArg (fun z => Ending.returned (.int .i64 z)) HD'
  · rw [if_neg hk] at HK
    have t2 : (k == 2) = false := by simpa using hk
    have HO := or_kind mdn hmd 32768 (.inr rfl)
    have HO' : bits .or .i64 (mdn : Int) 32768 = ((mdn + 32768 : Nat) : Int) := HO
    have HA : Hid (attrP k mdn = (mdn + 32768) * 65536) := Lib.hid (if_neg hk)
    go_enter Tryd.func97, Tryd.ntmps97
    go_wp2
    go_quiet ((go_at_call 100; exact Calls.quiet_of_same ((HK.out _).mono fun _ _ ⟨h1, h2⟩ => ⟨h1, h2.symm⟩)))
    go_wp2
    go_ret
    refine ⟨?_, ((Upd.refl [] w).alloc _).drewN _⟩
    rw [HA.out]
    exact congrArg (fun z => Ending.returned (.int .i64 z)) (show ((mdn : Int) + 32768) * 65536 = (((mdn + 32768) * 65536 : Nat) : Int) by omega)
end Go.Proofs.YtibmhadnfggmlaaDoor
namespace Go.Proofs.YtibmhadnfggmlaaDoor
set_option linter.unusedVariables false
set_option linter.unusedSimpArgs false
set_option linter.unusedSectionVars false
open Go.RowKit
set_option linter.unusedVariables false

theorem csize_any (r : RecD) (w : World) (h : r.Fits) : Calls Tryd.prog 48 #[r.v] w fun e w' => e = .returned (.int .i64 (46 + (nameP r.k r.p).length : Nat)) ∧ Upd [] w w' := by
  have hl := nameP_len r.k r.p
  have hp := h.p
  have HNM := Lib.hid (fun w => name_any r w h)
  obtain ⟨p, m, sum, l, wh, k, md, t, pos⟩ := r
  dsimp only at hp hl HNM
  unfold RecD.v at *
  dsimp only at HNM ⊢
  have hsz := size_strOf (nameP k p)
  have HSZ := Lib.hid hsz
  have hb : (strOf (nameP k p)).size ≤ 1001 := by omega
  generalize strOf (nameP k p) = S at *
  generalize (nameP k p).length = n at *
  clear hsz
  go_enter Tryd.func48, Tryd.ntmps48
  go_wp2_with fail
  refine (HNM.out _).mono ?_
  rintro e w1 ⟨rfl, hU⟩
  go_wp2
  go_ret
  exact ⟨by rw [← HSZ.out]; show Ending.returned (.int .i64 (46 + (S.size : Int))) = _; simp, ((Upd.refl _ _).alloc _).then hU⟩
set_option maxRecDepth 100000 in
set_option maxHeartbeats 12800000 in
theorem cenWrite_any (r : RecD) (w : World) (h : r.Fits) : Calls Tryd.prog 46 #[r.v] w fun e w' => e = .returned (.string (strOf (cwriteP r))) ∧ Upd [] w w' := by
  have hp := h.p
  have hs := h.sum
  have ht := h.t
  have HR := Lib.hid (fun w => lright_any r w h)
  have HN := Lib.hid (fun w => name_any r w h)
  have hnl := nameP_len r.k r.p
  have HNL := Lib.hid (nameP_lt r.k r.p)
  have HW : Hid (cwriteP r = if recErr r = 0 then cheadP r else []) := Lib.hid rfl
  have HH : Hid (cheadP r = [80, 75, 1, 2, 20, 3, 20, 0, 0, 8] ++ (leP r.m.toNat 2 ++ (leP r.t 4 ++ (leP r.sum 4 ++ (leP r.l.toNat 4 ++ (leP r.wh.toNat 4 ++ (leP (nameP r.k r.p).length 2 ++ ([0, 0, 0, 0, 0, 0, 0, 0] ++ (leP (attrP r.k r.md.toNat) 4 ++ (leP r.pos.toNat 4 ++ nameP r.k r.p)))))))))) := Lib.hid rfl
  have HLT := Lib.hid (cheadP_lt r)
  have HPT := Lib.hid (fun h0 => laidB_parts (recErr_parts (r := r) h0).2.1)
  have HMD := Lib.hid (fun h0 => (recErr_parts (r := r) h0).2.2.1)
  generalize cheadP r = hd at *
  generalize cwriteP r = wr at *
  by_cases hE : recErr r = 0
  rotate_left
  · rw [if_neg hE] at HW
    generalize recErr r = E at *
    obtain ⟨p, m, sum, l, wh, k, md, t, pos⟩ := r
    unfold RecD.v at *
    dsimp only at *
    have t1 : ((E : Int) != 0) = true := by simpa using hE
    go_enter Tryd.func46, Tryd.ntmps46
    go_wp2_with fail
    refine (HR.out _).mono ?_
    rintro e w1 ⟨rfl, hU1⟩
    have HU := Lib.hid (((Upd.refl [] w).alloc (.cells #[.string p, .int .i64 m, .int .u32 (sum : Nat), .int .i64 l, .int .i64 wh, .int .i64 k, .int .i64 md, .int .u32 (t : Nat), .int .i64 pos] 51)).then hU1)
    go_wp2_with fail
    go_ret
    exact ⟨by rw [HW.out]; rfl, HU.out⟩
  · rw [if_pos hE] at HW
    rw [hE] at HR
    obtain ⟨pm, pl, pw, pa⟩ := HPT.out hE
    have pmd := HMD.out hE
    clear hE HPT HMD
    have hsz : (strOf (nameP r.k r.p)).size = (nameP r.k r.p).length := size_strOf _
    have HBN := Lib.hid (bytesOf_strOf _ (nameP_lt r.k r.p))
    generalize hS : strOf (nameP r.k r.p) = S at *
    generalize hnm : nameP r.k r.p = nm at *
    obtain ⟨p, m, sum, l, wh, k, md, t, pos⟩ := r
    unfold RecD.v at *
    dsimp only at *
    obtain ⟨mn, rfl⟩ : ∃ mn : Nat, m = mn := ⟨m.toNat, by omega⟩
    obtain ⟨ln, rfl⟩ : ∃ ln : Nat, l = ln := ⟨l.toNat, by omega⟩
    obtain ⟨wn, rfl⟩ : ∃ wn : Nat, wh = wn := ⟨wh.toNat, by omega⟩
    obtain ⟨mdn, rfl⟩ : ∃ mdn : Nat, md = mdn := ⟨md.toNat, by omega⟩
    obtain ⟨pn, rfl⟩ : ∃ pn : Nat, pos = pn := ⟨pos.toNat, by omega⟩
    simp only [Int.toNat_natCast] at HH
    have hmn : mn ≤ 8 := by omega
    have hln : ln < 2147483648 := by omega
    have hwn : wn < 2147483648 := by omega
    have hpn : pn < 2147483648 := by omega
    have hmdn : mdn ≤ 511 := by omega
    have hz : (S.size : Int) ≤ 1001 := by omega
    have hzn : nm.length ≤ 1001 := by omega
    have HAT := Lib.hid (fun w => attr_any p (mn : Nat) sum (ln : Nat) (wn : Nat) k mdn t (pn : Nat) hmdn w)
    have hat : attrP k mdn < 9223372036854775808 := by unfold attrP; split <;> omega
    generalize attrP k mdn = AT at *
    clear pm pl pw pa pmd
    go_enter Tryd.func46, Tryd.ntmps46
    go_wp2_with fail
    refine (HR.out _).mono ?_
    rintro e w1 ⟨rfl, hU1⟩
    have HU := Lib.hid (((Upd.refl [] w).alloc (.cells #[.string p, .int .i64 mn, .int .u32 (sum : Nat), .int .i64 ln, .int .i64 wn, .int .i64 k, .int .i64 mdn, .int .u32 (t : Nat), .int .i64 pn] 51)).then hU1)
    have hB := (Blk.new w [.string p, .int .i64 mn, .int .u32 (sum : Nat), .int .i64 ln, .int .i64 wn, .int .i64 k, .int .i64 mdn, .int .u32 (t : Nat), .int .i64 pn] 51).upd hU1 (by simp)
    generalize w.heap.size = b0 at *
    have hlt := hB.lt
    have hW0 := Bld.fresh 99 w1
    have hBB := hB.alloc (.cells #[.pointer none, .slice none 0 0] 99)
    have c0 := hBB.cell 0 rfl
    have c1 := hBB.cell 1 rfl
    have c2 := hBB.cell 2 rfl
    have c3 := hBB.cell 3 rfl
    have c4 := hBB.cell 4 rfl
    have c5 := hBB.cell 5 rfl
    have c6 := hBB.cell 6 rfl
    have c7 := hBB.cell 7 rfl
    have c8 := hBB.cell 8 rfl
    have HBB := Lib.hid hBB
    have hA : w1.heap.size ≤ (w1.alloc (.cells #[.pointer none, .slice none 0 0] 99)).heap.size := by rw [World.size_alloc]; omega
    have HL := Lib.hid (Below.refl w1.heap.size (w1.alloc (.cells #[.pointer none, .slice none 0 0] 99)))
    have hLn : ([] : List Nat).length ≤ 0 := Nat.le_refl _
    go_wp2_with fail
    have hUa0 := (Upd.refl [] (w1.alloc (.cells #[.pointer none, .slice none 0 0] 99))).alloc (.cells #[.int .i64 33639248] 3)
    have hS0 : Blk ((w1.alloc (.cells #[.pointer none, .slice none 0 0] 99)).alloc (.cells #[.int .i64 33639248] 3)) (w1.heap.size + 1) (i64s [33639248]) 3 := by have hq := Blk.new (w1.alloc (.cells #[.pointer none, .slice none 0 0] 99)) (i64s [33639248]) 3; rw [World.size_alloc] at hq; exact hq
    have hgn0 : (w1.heap.size + 1) ≠ w1.heap.size := by have := hW0.lt; omega
    refine (fours_any w1.heap.size w1.heap.size (w1.heap.size + 1) 1 _ [33639248] _ (hW0.upd hUa0) hS0 hgn0 (by intro x hx; simp at hx; omega) rfl (by omega) (by omega) (by have := hUa0.size; omega)).mono ?_
    rintro e x0 ⟨rfl, hWx0, hLx0, -⟩
    have hLnx0 : ([] ++ flatN 4 [33639248]).length ≤ 4 := by rw [List.length_append, flatN_len]; simp only [List.length_cons, List.length_nil]; omega
    have hLax0 := (hUa0.belowB hA).trans hLx0
    have HLx0 := Lib.hid (HL.out.trans hLax0)
    have hBx0 := HBB.out.below hLax0 hlt
    have hAx0 := Nat.le_trans hA hLax0.size
    clear c0 c1 c2 c3 c4 c5 c6 c7 c8
    have d0 := hBx0.cell 0 rfl
    have d1 := hBx0.cell 1 rfl
    have d2 := hBx0.cell 2 rfl
    have d3 := hBx0.cell 3 rfl
    have d4 := hBx0.cell 4 rfl
    have d5 := hBx0.cell 5 rfl
    have d6 := hBx0.cell 6 rfl
    have d7 := hBx0.cell 7 rfl
    have d8 := hBx0.cell 8 rfl
    have HBx0 := Lib.hid hBx0
    clear hBx0
    go_wp2_with fail
    have hUa1 := (Upd.refl [] x0).alloc (.cells #[.int .i64 788, .int .i64 20, .int .i64 2048, .int .i64 (mn : Nat)] 3)
    have hS1 : Blk (x0.alloc (.cells #[.int .i64 788, .int .i64 20, .int .i64 2048, .int .i64 (mn : Nat)] 3)) x0.heap.size (i64s [788, 20, 2048, mn]) 3 := Blk.new x0 (i64s [788, 20, 2048, mn]) 3
    have hgn1 : x0.heap.size ≠ w1.heap.size := by have := hWx0.lt; omega
    refine (twos_any w1.heap.size w1.heap.size x0.heap.size 4 _ [788, 20, 2048, mn] _ (hWx0.upd hUa1) hS1 hgn1 (by intro x hx; simp at hx; omega) rfl (by omega) (by omega) (by have := hUa1.size; omega)).mono ?_
    rintro e x1 ⟨rfl, hWx1, hLx1, -⟩
    have hLnx1 : ([] ++ flatN 4 [33639248] ++ flatN 2 [788, 20, 2048, mn]).length ≤ 12 := by rw [List.length_append, flatN_len]; simp only [List.length_cons, List.length_nil]; omega
    have hLax1 := (hUa1.belowB hAx0).trans hLx1
    have HLx1 := Lib.hid (HLx0.out.trans hLax1)
    have hBx1 := HBx0.out.below hLax1 hlt
    have hAx1 := Nat.le_trans hAx0 hLax1.size
    clear d0 d1 d2 d3 d4 d5 d6 d7 d8
    have c0 := hBx1.cell 0 rfl
    have c1 := hBx1.cell 1 rfl
    have c2 := hBx1.cell 2 rfl
    have c3 := hBx1.cell 3 rfl
    have c4 := hBx1.cell 4 rfl
    have c5 := hBx1.cell 5 rfl
    have c6 := hBx1.cell 6 rfl
    have c7 := hBx1.cell 7 rfl
    have c8 := hBx1.cell 8 rfl
    have HBx1 := Lib.hid hBx1
    clear hBx1
    go_wp2_with fail
    have hUa2 := (Upd.refl [] x1).alloc (.cells #[.int .i64 (t : Nat), .int .i64 (sum : Nat), .int .i64 (ln : Nat), .int .i64 (wn : Nat)] 3)
    have hS2 : Blk (x1.alloc (.cells #[.int .i64 (t : Nat), .int .i64 (sum : Nat), .int .i64 (ln : Nat), .int .i64 (wn : Nat)] 3)) x1.heap.size (i64s [t, sum, ln, wn]) 3 := Blk.new x1 (i64s [t, sum, ln, wn]) 3
    have hgn2 : x1.heap.size ≠ w1.heap.size := by have := hWx1.lt; omega
    refine (fours_any w1.heap.size w1.heap.size x1.heap.size 4 _ [t, sum, ln, wn] _ (hWx1.upd hUa2) hS2 hgn2 (by intro x hx; simp at hx; omega) rfl (by omega) (by omega) (by have := hUa2.size; omega)).mono ?_
    rintro e x2 ⟨rfl, hWx2, hLx2, -⟩
    have hLnx2 : ([] ++ flatN 4 [33639248] ++ flatN 2 [788, 20, 2048, mn] ++ flatN 4 [t, sum, ln, wn]).length ≤ 28 := by rw [List.length_append, flatN_len]; simp only [List.length_cons, List.length_nil]; omega
    have hLax2 := (hUa2.belowB hAx1).trans hLx2
    have HLx2 := Lib.hid (HLx1.out.trans hLax2)
    have hBx2 := HBx1.out.below hLax2 hlt
    have hAx2 := Nat.le_trans hAx1 hLax2.size
    clear c0 c1 c2 c3 c4 c5 c6 c7 c8
    have d0 := hBx2.cell 0 rfl
    have d1 := hBx2.cell 1 rfl
    have d2 := hBx2.cell 2 rfl
    have d3 := hBx2.cell 3 rfl
    have d4 := hBx2.cell 4 rfl
    have d5 := hBx2.cell 5 rfl
    have d6 := hBx2.cell 6 rfl
    have d7 := hBx2.cell 7 rfl
    have d8 := hBx2.cell 8 rfl
    have HBx2 := Lib.hid hBx2
    clear hBx2
    go_wp2_with fail
    refine (HN.out _).mono ?_
    rintro e x3 ⟨rfl, hN3⟩
    have hWx3 := hWx2.upd hN3
    have hLx3 := hN3.belowB hAx2
    have HLx3 := Lib.hid (HLx2.out.trans hLx3)
    have hBx3 := HBx2.out.below hLx3 hlt
    have hAx3 := Nat.le_trans hAx2 hLx3.size
    clear d0 d1 d2 d3 d4 d5 d6 d7 d8
    have c0 := hBx3.cell 0 rfl
    have c1 := hBx3.cell 1 rfl
    have c2 := hBx3.cell 2 rfl
    have c3 := hBx3.cell 3 rfl
    have c4 := hBx3.cell 4 rfl
    have c5 := hBx3.cell 5 rfl
    have c6 := hBx3.cell 6 rfl
    have c7 := hBx3.cell 7 rfl
    have c8 := hBx3.cell 8 rfl
    have HBx3 := Lib.hid hBx3
    clear hBx3
    go_wp2_with fail
    have hUa4 := (Upd.refl [] x3).alloc (.cells #[.int .i64 (nm.length : Nat), .int .i64 0, .int .i64 0, .int .i64 0, .int .i64 0] 3)
    have hS4 : Blk (x3.alloc (.cells #[.int .i64 (nm.length : Nat), .int .i64 0, .int .i64 0, .int .i64 0, .int .i64 0] 3)) x3.heap.size (i64s [nm.length, 0, 0, 0, 0]) 3 := Blk.new x3 (i64s [nm.length, 0, 0, 0, 0]) 3
    have hgn4 : x3.heap.size ≠ w1.heap.size := by have := hWx3.lt; omega
    refine (twos_any w1.heap.size w1.heap.size x3.heap.size 5 _ [nm.length, 0, 0, 0, 0] _ (hWx3.upd hUa4) hS4 hgn4 (by intro x hx; simp at hx; omega) rfl (by omega) (by omega) (by have := hUa4.size; omega)).mono ?_
    rintro e x4 ⟨rfl, hWx4, hLx4, -⟩
    have hLnx4 : ([] ++ flatN 4 [33639248] ++ flatN 2 [788, 20, 2048, mn] ++ flatN 4 [t, sum, ln, wn] ++ flatN 2 [nm.length, 0, 0, 0, 0]).length ≤ 38 := by rw [List.length_append, flatN_len]; simp only [List.length_cons, List.length_nil]; omega
    have hLax4 := (hUa4.belowB hAx3).trans hLx4
    have HLx4 := Lib.hid (HLx3.out.trans hLax4)
    have hBx4 := HBx3.out.below hLax4 hlt
    have hAx4 := Nat.le_trans hAx3 hLax4.size
    clear c0 c1 c2 c3 c4 c5 c6 c7 c8
    have d0 := hBx4.cell 0 rfl
    have d1 := hBx4.cell 1 rfl
    have d2 := hBx4.cell 2 rfl
    have d3 := hBx4.cell 3 rfl
    have d4 := hBx4.cell 4 rfl
    have d5 := hBx4.cell 5 rfl
    have d6 := hBx4.cell 6 rfl
    have d7 := hBx4.cell 7 rfl
    have d8 := hBx4.cell 8 rfl
    have HBx4 := Lib.hid hBx4
    clear hBx4
    go_wp2_with fail
    refine wp_region_held_drew (S := fun w' => Blk w' b0 [.string p, .int .i64 mn, .int .u32 (sum : Nat), .int .i64 ln, .int .i64 wn, .int .i64 k, .int .i64 mdn, .int .u32 (t : Nat), .int .i64 pn] 51 ∧ Below w1.heap.size (w1.alloc (.cells #[.pointer none, .slice none 0 0] 99)) w' ∧ w1.heap.size ≤ w'.heap.size) (by kernel_rfl) ⟨HBx4.out, Below.drew HLx4.out, hAx4⟩ (fun hHeld => ?_)
    change wpAnyH _ _ _ _ _ 7 #[false, false, false, false, false, false, false] _ _
    refine heldTake (i := 0) (d := some 38) (v := ?v0_1) rfl rfl (by kernel_rfl) (by kernel_rfl) (by kernel_rfl) (fun _ _ _ h => h) (by rfl) ?hy0_1 (by assumption) ?r0_1
    case hy0_1 => (intro w hSw; (try dsimp only at hSw); go_simp; try with_reducible rfl)
    try simp only [Act.put, List.setIfInBounds_toArray, List.set_cons_zero, List.set_cons_succ]
    change wpAnyH _ _ _ _ _ 6 #[true, false, false, false, false, false, false] _ _
    refine heldTake (i := 1) (d := some 39) (v := ?v1_2) rfl rfl (by kernel_rfl) (by kernel_rfl) (by kernel_rfl) (fun _ _ _ h => h) (by rfl) ?hy1_2 (by assumption) ?r1_2
    case hy1_2 => (intro w hSw; have q0 := hSw.1.cell 0 rfl; have q1 := hSw.1.cell 1 rfl; have q2 := hSw.1.cell 2 rfl; have q3 := hSw.1.cell 3 rfl; have q4 := hSw.1.cell 4 rfl; have q5 := hSw.1.cell 5 rfl; have q6 := hSw.1.cell 6 rfl; have q7 := hSw.1.cell 7 rfl; have q8 := hSw.1.cell 8 rfl; go_simp; try with_reducible rfl)
    try simp only [Act.put, List.setIfInBounds_toArray, List.set_cons_zero, List.set_cons_succ]
    change wpAnyH _ _ _ _ _ 5 #[true, true, false, false, false, false, false] _ _
    refine heldTake (i := 3) (d := some 41) (v := ?v3_3) rfl rfl (by kernel_rfl) (by kernel_rfl) (by kernel_rfl) (fun _ _ _ h => h) (by rfl) ?hy3_3 (by assumption) ?r3_3
    case hy3_3 => (intro w hSw; (try dsimp only at hSw); go_simp; try with_reducible rfl)
    try simp only [Act.put, List.setIfInBounds_toArray, List.set_cons_zero, List.set_cons_succ]
    change wpAnyH _ _ _ _ _ 4 #[true, true, false, true, false, false, false] _ _
    refine heldTake (i := 4) (d := some 42) (v := ?v4_4) rfl rfl (by kernel_rfl) (by kernel_rfl) (by kernel_rfl) (fun _ _ _ h => h) (by rfl) ?hy4_4 (by assumption) ?r4_4
    case hy4_4 => (intro w hSw; have q0 := hSw.1.cell 0 rfl; have q1 := hSw.1.cell 1 rfl; have q2 := hSw.1.cell 2 rfl; have q3 := hSw.1.cell 3 rfl; have q4 := hSw.1.cell 4 rfl; have q5 := hSw.1.cell 5 rfl; have q6 := hSw.1.cell 6 rfl; have q7 := hSw.1.cell 7 rfl; have q8 := hSw.1.cell 8 rfl; go_simp; try with_reducible rfl)
    try simp only [Act.put, List.setIfInBounds_toArray, List.set_cons_zero, List.set_cons_succ]
    change wpAnyH _ _ _ _ _ 3 #[true, true, false, true, true, false, false] _ _
    refine wpAnyH_ready (rs := [2]) (by kernel_rfl) (by simp) ?_
    refine AllReadyH.cons rfl (fun K hK => ?_) AllReadyH.nil
    go_simp
    refine (HAT.out _).mono ?_
    rintro e z1 ⟨rfl, hz1⟩
    have hWz1 := hWx4.drew.upd hz1
    have hS1 : Blk z1 b0 [.string p, .int .i64 mn, .int .u32 (sum : Nat), .int .i64 ln, .int .i64 wn, .int .i64 k, .int .i64 mdn, .int .u32 (t : Nat), .int .i64 pn] 51 ∧ Below w1.heap.size (w1.alloc (.cells #[.pointer none, .slice none 0 0] 99)) z1 ∧ w1.heap.size ≤ z1.heap.size := ⟨hHeld.1.upd hz1 (by simp), hHeld.2.1.trans (hz1.belowB hHeld.2.2), Nat.le_trans hHeld.2.2 hz1.size⟩
    go_wp2
    refine hK.out _ _ hS1 (fun hHeld => ?_)
    clear hK K
    try simp only [Act.put, List.setIfInBounds_toArray, List.set_cons_zero, List.set_cons_succ]
    change wpAnyH _ _ _ _ _ 2 #[true, true, true, true, true, false, false] _ _
    refine wpAnyH_ready (rs := [5]) (by kernel_rfl) (by simp) ?_
    refine AllReadyH.cons rfl (fun K hK => ?_) AllReadyH.nil
    go_simp
    have hz2 := (Upd.refl [] z1).alloc (.cells #[.int .i64 (AT : Nat), .int .i64 (pn : Nat)] 3)
    have hWz2 := hWz1.upd hz2
    have hS2 : Blk (z1.alloc (.cells #[.int .i64 (AT : Nat), .int .i64 (pn : Nat)] 3)) b0 [.string p, .int .i64 mn, .int .u32 (sum : Nat), .int .i64 ln, .int .i64 wn, .int .i64 k, .int .i64 mdn, .int .u32 (t : Nat), .int .i64 pn] 51 ∧ Below w1.heap.size (w1.alloc (.cells #[.pointer none, .slice none 0 0] 99)) (z1.alloc (.cells #[.int .i64 (AT : Nat), .int .i64 (pn : Nat)] 3)) ∧ w1.heap.size ≤ (z1.alloc (.cells #[.int .i64 (AT : Nat), .int .i64 (pn : Nat)] 3)).heap.size := ⟨hHeld.1.upd hz2 (by simp), hHeld.2.1.trans (hz2.belowB hHeld.2.2), Nat.le_trans hHeld.2.2 hz2.size⟩
    go_wp2
    refine hK.out _ _ hS2 (fun hHeld => ?_)
    clear hK K
    try simp only [Act.put, List.setIfInBounds_toArray, List.set_cons_zero, List.set_cons_succ]
    change wpAnyH _ _ _ _ _ 1 #[true, true, true, true, true, true, false] _ _
    refine wpAnyH_ready (rs := [6]) (by kernel_rfl) (by simp) ?_
    refine AllReadyH.cons rfl (fun K hK => ?_) AllReadyH.nil
    go_simp
    have hgz : z1.heap.size ≠ w1.heap.size := by have := hWz1.lt; omega
    refine (fours_any w1.heap.size w1.heap.size z1.heap.size 2 _ [AT, pn] _ hWz2 (Blk.new z1 (i64s [AT, pn]) 3) hgz (by intro x hx; simp at hx; omega) rfl (by omega) (by omega) hHeld.2.2).mono ?_
    rintro e z3 ⟨rfl, hWz3, hLz3, -⟩
    have hS3 : Blk z3 b0 [.string p, .int .i64 mn, .int .u32 (sum : Nat), .int .i64 ln, .int .i64 wn, .int .i64 k, .int .i64 mdn, .int .u32 (t : Nat), .int .i64 pn] 51 ∧ Below w1.heap.size (w1.alloc (.cells #[.pointer none, .slice none 0 0] 99)) z3 ∧ w1.heap.size ≤ z3.heap.size := ⟨hHeld.1.below hLz3 hlt, hHeld.2.1.trans hLz3, Nat.le_trans hHeld.2.2 hLz3.size⟩
    go_wp2
    refine hK.out _ _ hS3 (fun hHeld => ?_)
    clear hK K
    try simp only [Act.put, List.setIfInBounds_toArray, List.set_cons_zero, List.set_cons_succ]
    change wpAnyH _ _ _ _ _ 0 #[true, true, true, true, true, true, true] _ _
    refine wpAnyH_done (by kernel_rfl) ?_ 0
    have hS9 := hHeld
    clear hHeld
    have g0 := hS9.1.cell 0 rfl
    have g1 := hS9.1.cell 1 rfl
    have g2 := hS9.1.cell 2 rfl
    have g3 := hS9.1.cell 3 rfl
    have g4 := hS9.1.cell 4 rfl
    have g5 := hS9.1.cell 5 rfl
    have g6 := hS9.1.cell 6 rfl
    have g7 := hS9.1.cell 7 rfl
    have g8 := hS9.1.cell 8 rfl
    go_wp2_with fail
    refine (HN.out _).mono ?_
    rintro e y1 ⟨rfl, hN1⟩
    have hW1 := hWz3.upd hN1
    have HL1 := Lib.hid (hS9.2.1.trans (hN1.belowB hS9.2.2))
    have hA1 := Nat.le_trans hS9.2.2 hN1.size
    go_wp2_with fail
    have hU2 := (Upd.refl [] y1).alloc (.cells #[.string S] 9)
    refine (wText_any w1.heap.size w1.heap.size y1.heap.size _ S _ (hW1.upd hU2) ((Blk.new y1 [.string S] 9).cell 0 rfl) (by simp only [List.length_append, flatN_len, List.length_nil, List.length_cons]; omega) (by have := hU2.size; omega)).mono ?_
    rintro e y2 ⟨rfl, hW2, hL2⟩
    have HL2 := Lib.hid ((HL1.out.trans (hU2.belowB hA1)).trans hL2)
    rw [HBN.out] at hW2
    have hhd : [] ++ flatN 4 [33639248] ++ flatN 2 [788, 20, 2048, mn] ++ flatN 4 [t, sum, ln, wn] ++ flatN 2 [nm.length, 0, 0, 0, 0] ++ flatN 4 [AT, pn] ++ nm = hd := by
      rw [HH.out]
      simp [List.append_assoc, flatN_cons, flatN_nil, leP]
    rw [hhd] at hW2
    go_wp2_with fail
    refine (wBytes_any _ _ hd _ hW2 (by rw [HH.out]; simp) HLT.out).mono ?_
    rintro e y3 ⟨rfl, hL3⟩
    have HL3 := Lib.hid (HL2.out.trans hL3)
    go_wp2
    go_ret
    refine ⟨by rw [HW.out]; rfl, ?_⟩
    exact HU.out.then (Upd.of_below ((((Upd.refl [] w1).alloc _).below).trans HL3.out))
end Go.Proofs.YtibmhadnfggmlaaDoor
namespace Go.Proofs.YtibmhadnfggmlaaDoor
set_option linter.unusedVariables false
set_option linter.unusedSimpArgs false
set_option linter.unusedSectionVars false
open Go.RowKit
set_option linter.unusedVariables false

def rec0 : RecD := ⟨{ data := #[97] }, 0, 0, 0, 0, 1, 0, 2162688, 0⟩
theorem rec0_fits : rec0.Fits := ⟨by decide, by decide, by decide⟩
theorem rec0_len : (writeP rec0).length = 31 := by decide +kernel
set_option maxRecDepth 100000 in
theorem lives19_any (w : World) : Calls Tryd.prog 31 #[] w fun e w' => e = .returned (.bool true) ∧ Upd [] w w' := by
  have HW : Hid (∀ w, Calls Tryd.prog 36 #[.agg #[.string { data := #[97] }, .int .i64 0, .int .u32 0, .int .i64 0, .int .i64 0, .int .i64 1, .int .i64 0, .int .u32 2162688, .int .i64 0]] w fun e w' => e = .returned (.string (strOf (writeP rec0))) ∧ Upd [] w w') := Lib.hid (fun w => locWrite_any rec0 w rec0_fits)
  have hsz : (strOf (writeP rec0)).size = 31 := by rw [size_strOf, rec0_len]
  generalize strOf (writeP rec0) = S at *
  go_enter Tryd.func31, Tryd.ntmps31
  go_wp2_with fail
  refine (HW.out _).mono ?_
  rintro e w1 ⟨rfl, hU⟩
  go_wp2_with fail
  go_ret
  exact ⟨rfl, ((Upd.refl [] w).alloc _).then hU⟩
end Go.Proofs.YtibmhadnfggmlaaDoor
namespace Go.Proofs.YtibmhadnfggmlaaDoor
set_option linter.unusedVariables false
set_option linter.unusedSimpArgs false
set_option linter.unusedSectionVars false
open Go.RowKit
set_option linter.unusedVariables false

theorem crec0_len : (cwriteP rec0).length = 47 := by decide +kernel
set_option maxRecDepth 100000 in
theorem lives20_any (w : World) : Calls Tryd.prog 45 #[] w fun e w' => e = .returned (.bool true) ∧ Upd [] w w' := by
  have HW : Hid (∀ w, Calls Tryd.prog 46 #[.agg #[.string { data := #[97] }, .int .i64 0, .int .u32 0, .int .i64 0, .int .i64 0, .int .i64 1, .int .i64 0, .int .u32 2162688, .int .i64 0]] w fun e w' => e = .returned (.string (strOf (cwriteP rec0))) ∧ Upd [] w w') := Lib.hid (fun w => cenWrite_any rec0 w rec0_fits)
  have HZ : Hid (∀ w, Calls Tryd.prog 48 #[.agg #[.string { data := #[97] }, .int .i64 0, .int .u32 0, .int .i64 0, .int .i64 0, .int .i64 1, .int .i64 0, .int .u32 2162688, .int .i64 0]] w fun e w' => e = .returned (.int .i64 47) ∧ Upd [] w w') := Lib.hid (fun w => csize_any rec0 w rec0_fits)
  have hsz : (strOf (cwriteP rec0)).size = 47 := by rw [size_strOf, crec0_len]
  generalize strOf (cwriteP rec0) = S at *
  go_enter Tryd.func45, Tryd.ntmps45
  go_wp2_with fail
  refine (HW.out _).mono ?_
  rintro e w1 ⟨rfl, hU⟩
  have hB := (Blk.new w [.string { data := #[97] }, .int .i64 0, .int .u32 0, .int .i64 0, .int .i64 0, .int .i64 1, .int .i64 0, .int .u32 2162688, .int .i64 0] 51).upd hU (by simp)
  have hU1 := ((Upd.refl [] w).alloc (.cells #[.string { data := #[97] }, .int .i64 0, .int .u32 0, .int .i64 0, .int .i64 0, .int .i64 1, .int .i64 0, .int .u32 2162688, .int .i64 0] 51)).then hU
  have c0 := hB.cell 0 rfl
  have c1 := hB.cell 1 rfl
  have c2 := hB.cell 2 rfl
  have c3 := hB.cell 3 rfl
  have c4 := hB.cell 4 rfl
  have c5 := hB.cell 5 rfl
  have c6 := hB.cell 6 rfl
  have c7 := hB.cell 7 rfl
  have c8 := hB.cell 8 rfl
  have HU1 := Lib.hid hU1
  clear hU hU1 hB
  go_wp2_with fail
  refine (HZ.out _).mono ?_
  rintro e w2 ⟨rfl, hU2⟩
  go_wp2
  go_ret
  exact ⟨rfl, HU1.out.then hU2⟩
end Go.Proofs.YtibmhadnfggmlaaDoor
