/- Package swingleref19: Read: flags 2048, method 0: its walk. -/
import Derived.Test.YtibmhadnfggmlaaDoorRefA
namespace Go.Proofs.YtibmhadnfggmlaaDoor
open Go.RowKit
set_option linter.unusedVariables false

set_option maxRecDepth 100000 in
set_option maxHeartbeats 12800000 in
theorem rlocRead_2048_0 (s x : ByteArray) (i : Nat) (w : World) (hs : s.size ≤ 1000000) (hi : i ≤ s.size) (hx : x = s.extract i s.size) (g30 : 30 ≤ x.size) (hl1 : 30 + gN x 26 2 + gN x 28 2 ≤ x.size) (gbe : gN x 0 4 = 67324752) (gfl : gN x 6 2 = 2048) (gme : gN x 8 2 = 0) :
    Calls Tryd.prog 42 #[.string s, .int .i64 (i : Nat)] w fun e w' => e = .returned (readV (readP s i)) ∧ Upd [] w w' := by
  have hi0 : (0 : Int) ≤ (i : Int) := by omega
  have hi1 : (i : Int) ≤ (s.size : Int) := by omega
  have hxs : x.size = s.size - i := by rw [hx, ByteArray.size_extract]; omega
  have HV : Hid (readP s i = readX x i) := Lib.hid (by unfold readP; rw [if_neg (by omega), hx]; rfl)
  have h30 : ¬ x.size < 30 := by omega
  have hz : ¬ (s.size : Int) - (i : Int) < 30 := by omega
  have hx0 : (30 : Int) ≤ (x.size : Int) := by omega
  have hxm : x.size ≤ 1000000 := by omega
  have HAlo := Lib.hid (fun w => rAt_any x 26 2 w (by omega) (by omega) (by omega))
  have Blo := gN_lt x 26 2
  have H_lo : Hid (gN x 26 2 = gN x 26 2) := Lib.hid rfl
  have HAmo := Lib.hid (fun w => rAt_any x 28 2 w (by omega) (by omega) (by omega))
  have Bmo := gN_lt x 28 2
  have H_mo : Hid (gN x 28 2 = gN x 28 2) := Lib.hid rfl
  have HAfl := Lib.hid (fun w => rAt_any x 6 2 w (by omega) (by omega) (by omega))
  have Bfl := gN_lt x 6 2
  have H_fl : Hid (gN x 6 2 = gN x 6 2) := Lib.hid rfl
  have HAme := Lib.hid (fun w => rAt_any x 8 2 w (by omega) (by omega) (by omega))
  have Bme := gN_lt x 8 2
  have H_me : Hid (gN x 8 2 = gN x 8 2) := Lib.hid rfl
  have HAti := Lib.hid (fun w => rAt_any x 10 4 w (by omega) (by omega) (by omega))
  have Bti := gN_lt x 10 4
  have H_ti : Hid (gN x 10 4 = gN x 10 4) := Lib.hid rfl
  have HAsu := Lib.hid (fun w => rAt_any x 14 4 w (by omega) (by omega) (by omega))
  have Bsu := gN_lt x 14 4
  have H_su : Hid (gN x 14 4 = gN x 14 4) := Lib.hid rfl
  have HAla := Lib.hid (fun w => rAt_any x 18 4 w (by omega) (by omega) (by omega))
  have Bla := gN_lt x 18 4
  have H_la : Hid (gN x 18 4 = gN x 18 4) := Lib.hid rfl
  have HAwh := Lib.hid (fun w => rAt_any x 22 4 w (by omega) (by omega) (by omega))
  have Bwh := gN_lt x 22 4
  have H_wh : Hid (gN x 22 4 = gN x 22 4) := Lib.hid rfl
  have HLEN : Hid (hdLen x = 30 + gN x 26 2 + gN x 28 2) := Lib.hid rfl
  have HM := Lib.hid (magic4 x (by omega) [80, 75, 3, 4] 67324752 rfl (by decide))
  have HX : Hid (∀ h : hdLen x ≤ x.size, (hdP ⟨x, 0, false⟩).1 = ⟨gN x 0 4, gN x 6 2, gN x 8 2, gN x 10 4, gN x 14 4, gN x 18 4, gN x 22 4, ((bytesOf x).drop 30).take (gN x 26 2)⟩) := Lib.hid (fun h => by rw [hdP_fine x (by omega) h])
  generalize gN x 0 4 = be at *
  generalize gN x 26 2 = lo at *
  generalize gN x 28 2 = mo at *
  generalize gN x 6 2 = fl at *
  generalize gN x 8 2 = me at *
  generalize gN x 10 4 = ti at *
  generalize gN x 14 4 = su at *
  generalize gN x 18 4 = la at *
  generalize gN x 22 4 = wh at *
  simp only [Nat.reducePow] at Blo Bmo Bfl Bme Bti Bsu Bla Bwh
  have HXD := Lib.hid hx
  clear hx
  subst gbe gfl gme
  have HV3 : Hid (readX x i = if formB (hdP ⟨x, 0, false⟩).1 = false then (noneR, 0, false, 2) else if (pathP (hdP ⟨x, 0, false⟩).1.name).2.2 = false then (noneR, 0, false, 5) else if rtimeB ((pathP (hdP ⟨x, 0, false⟩).1.name).2.1 : Nat) (hdP ⟨x, 0, false⟩).1.t = false then (noneR, 0, false, 13) else (recOf (hdP ⟨x, 0, false⟩).1 i, hdLen x, decide ((hdP ⟨x, 0, false⟩).1.flags = 2056), 0)) := Lib.hid (if_neg (by rw [HLEN.out]; omega))
  rw [HX.out (by rw [HLEN.out]; omega), HLEN.out] at HV3
  clear HX HLEN
  go_enter Tryd.func42, Tryd.ntmps42
  go_wp2_with fail
  rw [← HXD.out]

  have hR0 := (Blk.new w [.string .empty, .int .i64 0, .int .u32 0, .int .i64 0, .int .i64 0, .int .i64 0, .int .i64 0, .int .u32 0, .int .i64 0] 51).alloc (.cells #[.string .empty, .int .i64 0, .int .u32 0, .int .i64 0, .int .i64 0, .int .i64 0, .int .i64 0, .int .u32 0, .int .i64 0] 51)
  have hN0 := Blk.new (w.alloc (.cells #[.string .empty, .int .i64 0, .int .u32 0, .int .i64 0, .int .i64 0, .int .i64 0, .int .i64 0, .int .u32 0, .int .i64 0] 51)) [.string .empty, .int .i64 0, .int .u32 0, .int .i64 0, .int .i64 0, .int .i64 0, .int .i64 0, .int .u32 0, .int .i64 0] 51
  have hU0 := ((Upd.refl [] w).alloc (.cells #[.string .empty, .int .i64 0, .int .u32 0, .int .i64 0, .int .i64 0, .int .i64 0, .int .i64 0, .int .u32 0, .int .i64 0] 51)).alloc (.cells #[.string .empty, .int .i64 0, .int .u32 0, .int .i64 0, .int .i64 0, .int .i64 0, .int .i64 0, .int .u32 0, .int .i64 0] 51)
  rw [World.size_alloc] at hN0
  refine (HAlo.out _).mono ?_
  rintro e w1 ⟨rfl, hu1⟩
  have hR1 := hR0.upd hu1 (by simp)
  have hN1 := hN0.upd hu1 (by simp)
  have hU1 := hU0.then hu1
  clear hR0 hN0 hU0 hu1
  go_wp2_with fail
  refine (HAmo.out _).mono ?_
  rintro e w2 ⟨rfl, hu2⟩
  have hR2 := hR1.upd hu2 (by simp)
  have hN2 := hN1.upd hu2 (by simp)
  have hU2 := hU1.then hu2
  clear hR1 hN1 hU1 hu2
  have HR0 := Lib.hid (Nat.le_refl w.heap.size)
  generalize hr0 : w.heap.size = r0 at *
  have HR1 : Hid (w.heap.size ≤ r0) := Lib.hid (by omega)
  clear HR0 hr0
  go_wp2_with fail
  refine (HAfl.out _).mono ?_
  rintro e w3 ⟨rfl, hu3⟩
  have hR3 := hR2.upd hu3 (by simp)
  have hN3 := hN2.upd hu3 (by simp)
  have hU3 := hU2.then hu3
  clear hR2 hN2 hU2 hu3
  go_wp2_with fail
  refine (HAme.out _).mono ?_
  rintro e w4 ⟨rfl, hu4⟩
  have hR4 := hR3.upd hu4 (by simp)
  have hN4 := hN3.upd hu4 (by simp)
  have hU4 := hU3.then hu4
  clear hR3 hN3 hU3 hu4
  have tm : ((x.extract 0 4).toList == [80, 75, 3, 4]) = true := by rw [HM.out]; rfl
  go_wp2_with fail
  refine (HAti.out _).mono ?_
  rintro e w5 ⟨rfl, hu5⟩
  have hR5 := hR4.upd hu5 (by simp)
  have hN5 := hN4.upd hu5 (by simp)
  have hU5 := hU4.then hu5
  clear hR4 hN4 hU4 hu5
  go_wp2_with fail
  refine (HAsu.out _).mono ?_
  rintro e w6 ⟨rfl, hu6⟩
  have hR6 := hR5.upd hu6 (by simp)
  have hN6 := hN5.upd hu6 (by simp)
  have hU6 := hU5.then hu6
  clear hR5 hN5 hU5 hu6
  go_wp2_with fail
  refine (HAla.out _).mono ?_
  rintro e w7 ⟨rfl, hu7⟩
  have hR7 := hR6.upd hu7 (by simp)
  have hN7 := hN6.upd hu7 (by simp)
  have hU7 := hU6.then hu7
  clear hR6 hN6 hU6 hu7
  go_wp2_with fail
  refine (HAwh.out _).mono ?_
  rintro e w8 ⟨rfl, hu8⟩
  have hR8 := hR7.upd hu8 (by simp)
  have hN8 := hN7.upd hu8 (by simp)
  have hU8 := hU7.then hu8
  clear hR7 hN7 hU7 hu8
  have HPT := Lib.hid (fun w => rpath_any (x.extract 30 (30 + lo)) w (by rw [ByteArray.size_extract]; omega))
  have hbx : bytesOf (x.extract 30 (30 + lo)) = ((bytesOf x).drop 30).take lo := by rw [bytesOf_extract, Nat.add_sub_cancel_left]
  rw [hbx] at HPT
  clear hbx
  have HF3 : Hid (formB ⟨67324752, 2048, 0, ti, su, la, wh, ((bytesOf x).drop 30).take lo⟩ = true) := Lib.hid (by first | rfl | (unfold formB; simp <;> omega))
  rw [if_neg (by rw [HF3.out]; simp)] at HV3
  try dsimp only at HV3
  clear HF3
  have HPS := Lib.hid (fun h => pathP_size (l := ((bytesOf x).drop 30).take lo) h)
  unfold recOf at HV3
  try dsimp only at HV3
  generalize pathP (((bytesOf x).drop 30).take lo) = pp at *
  obtain ⟨a, kk, okb⟩ := pp
  unfold pathV at HPT
  dsimp only at HPT HPS HV3
  have hR9 := hR8.alloc (.cells #[.string { data := #[] }, .int .i64 0, .int .u32 (su : Nat), .int .i64 (la : Nat), .int .i64 (wh : Nat), .int .i64 0, .int .i64 0, .int .u32 (ti : Nat), .int .i64 (i : Nat)] 51)
  have hN9 := hN8.alloc (.cells #[.string { data := #[] }, .int .i64 0, .int .u32 (su : Nat), .int .i64 (la : Nat), .int .i64 (wh : Nat), .int .i64 0, .int .i64 0, .int .u32 (ti : Nat), .int .i64 (i : Nat)] 51)
  have hU9 := hU8.alloc (.cells #[.string { data := #[] }, .int .i64 0, .int .u32 (su : Nat), .int .i64 (la : Nat), .int .i64 (wh : Nat), .int .i64 0, .int .i64 0, .int .u32 (ti : Nat), .int .i64 (i : Nat)] 51)
  have hQ9 := Blk.new w8 [.string { data := #[] }, .int .i64 0, .int .u32 (su : Nat), .int .i64 (la : Nat), .int .i64 (wh : Nat), .int .i64 0, .int .i64 0, .int .u32 (ti : Nat), .int .i64 (i : Nat)] 51
  have hnr : r0 < w8.heap.size := hR8.lt
  have HN8lt := hN8.lt
  clear hR8 hN8 hU8
  have HR9 := Lib.hid hR9
  have HN9 := Lib.hid hN9
  have HU9 := Lib.hid hU9
  have HQ9 := Lib.hid hQ9
  clear hR9 hN9 hU9 hQ9
  have HTB : Hid (rtimeB (kk : Int) ti = rtimeB (kk : Int) ti) := Lib.hid rfl
  go_wp2_with fail
  have hnr2 : r0 + 1 < w8.heap.size := HN8lt
  generalize w8.heap.size = q0 at *
  refine (HPT.out _).mono ?_
  rintro e w9 ⟨rfl, hu9⟩
  have hR10 := HR9.out.upd hu9 (by simp)
  have hN10 := HN9.out.upd hu9 (by simp)
  have hQ10 := HQ9.out.upd hu9 (by simp)
  have hU10 := HU9.out.then hu9
  clear HR9 HN9 HQ9 HU9 hu9
  cases okb with
  | false =>
    have HV2 : Hid (readX x i = (noneR, 0, false, 5)) := Lib.hid (by rw [HV3.out]; rfl)
    clear HV3
    clear hQ10
    have c0 := hR10.cell 0 rfl
    have c1 := hR10.cell 1 rfl
    have c2 := hR10.cell 2 rfl
    have c3 := hR10.cell 3 rfl
    have c4 := hR10.cell 4 rfl
    have c5 := hR10.cell 5 rfl
    have c6 := hR10.cell 6 rfl
    have c7 := hR10.cell 7 rfl
    have c8 := hR10.cell 8 rfl
    have d0 := hN10.cell 0 rfl
    have d1 := hN10.cell 1 rfl
    have d2 := hN10.cell 2 rfl
    have d3 := hN10.cell 3 rfl
    have d4 := hN10.cell 4 rfl
    have d5 := hN10.cell 5 rfl
    have d6 := hN10.cell 6 rfl
    have d7 := hN10.cell 7 rfl
    have d8 := hN10.cell 8 rfl
    have f0 := hR10.frz 0
    have f1 := hR10.frz 1
    have f2 := hR10.frz 2
    have f3 := hR10.frz 3
    have f4 := hR10.frz 4
    have f5 := hR10.frz 5
    have f6 := hR10.frz 6
    have f7 := hR10.frz 7
    have f8 := hR10.frz 8
    have HR := Lib.hid hR10
    have HN := Lib.hid hN10
    have HU := Lib.hid hU10
    clear hR10 hN10 hU10
    go_wp2_with fail
    (try simp only [Exit.inBlock, Exit.then]); refine bodyPost_ret (results_rd4 rfl _ _ r0 _ _ _ _ _ _ _ _ _ rfl (Blk.set9 HR.out _ _ _ _ _ _ _ _ _)) rfl ⟨?_, Upd.set9 HU.out (.inr HR1.out) _ _ _ _ _ _ _ _ _⟩
    rw [HV.out, HV2.out]; rfl
  | true =>
    have hps := HPS.out rfl
    have hfits : (⟨strOf a, 0, su, la, wh, (kk : Nat), 0, ti, (i : Nat)⟩ : RecD).Fits := ⟨by dsimp only; rw [size_strOf]; omega, by dsimp only; omega, by dsimp only; omega⟩
    have HTM := Lib.hid (fun w => rtime_any _ w hfits)
    unfold RecD.v at HTM
    dsimp only at HTM
    rw [if_neg (by simp)] at HV3
    generalize rtimeB (kk : Int) ti = tb at *
    have g0 := hQ10.cell 0 rfl
    have g1 := hQ10.cell 1 rfl
    have g2 := hQ10.cell 2 rfl
    have g3 := hQ10.cell 3 rfl
    have g4 := hQ10.cell 4 rfl
    have g5 := hQ10.cell 5 rfl
    have g6 := hQ10.cell 6 rfl
    have g7 := hQ10.cell 7 rfl
    have g8 := hQ10.cell 8 rfl
    have k0 := hQ10.frz 0
    have k5 := hQ10.frz 5
    have HR10 := Lib.hid hR10
    have HN10 := Lib.hid hN10
    have HU10 := Lib.hid hU10
    have HQ10 := Lib.hid hQ10
    clear hR10 hN10 hU10 hQ10
    go_wp2_with fail
    refine (HTM.out _).mono ?_
    rintro e w10 ⟨rfl, hu10⟩
    have hR11 := ((HR10.out.setFar (a := ⟨q0, 0, none⟩) (.string (strOf a)) (by simp; omega)).setFar (a := ⟨q0, 5, none⟩) (.int .i64 (kk : Nat)) (by simp; omega)).upd hu10 (by simp)
    have hN11 := ((HN10.out.setFar (a := ⟨q0, 0, none⟩) (.string (strOf a)) (by simp; omega)).setFar (a := ⟨q0, 5, none⟩) (.int .i64 (kk : Nat)) (by simp; omega)).upd hu10 (by simp)
    have hQ11 := ((HQ10.out.set 0 (.string (strOf a))).set 5 (.int .i64 (kk : Nat))).upd hu10 (by simp)
    have hU11 := ((HU10.out.setCell (p := ⟨q0, 0, none⟩) (.inr (by have := HR1.out; dsimp only; omega)) (.string (strOf a))).setCell (p := ⟨q0, 5, none⟩) (.inr (by have := HR1.out; dsimp only; omega)) (.int .i64 (kk : Nat))).then hu10
    clear HR10 HN10 HU10 HQ10 g0 g1 g2 g3 g4 g5 g6 g7 g8 k0 k5 hu10
    cases tb with
    | false =>
      have HV2 : Hid (readX x i = (noneR, 0, false, 13)) := Lib.hid (by rw [HV3.out]; rfl)
      clear HV3
      clear hQ11
      have c0 := hR11.cell 0 rfl
      have c1 := hR11.cell 1 rfl
      have c2 := hR11.cell 2 rfl
      have c3 := hR11.cell 3 rfl
      have c4 := hR11.cell 4 rfl
      have c5 := hR11.cell 5 rfl
      have c6 := hR11.cell 6 rfl
      have c7 := hR11.cell 7 rfl
      have c8 := hR11.cell 8 rfl
      have d0 := hN11.cell 0 rfl
      have d1 := hN11.cell 1 rfl
      have d2 := hN11.cell 2 rfl
      have d3 := hN11.cell 3 rfl
      have d4 := hN11.cell 4 rfl
      have d5 := hN11.cell 5 rfl
      have d6 := hN11.cell 6 rfl
      have d7 := hN11.cell 7 rfl
      have d8 := hN11.cell 8 rfl
      have f0 := hR11.frz 0
      have f1 := hR11.frz 1
      have f2 := hR11.frz 2
      have f3 := hR11.frz 3
      have f4 := hR11.frz 4
      have f5 := hR11.frz 5
      have f6 := hR11.frz 6
      have f7 := hR11.frz 7
      have f8 := hR11.frz 8
      have HR := Lib.hid hR11
      have HN := Lib.hid hN11
      have HU := Lib.hid hU11
      clear hR11 hN11 hU11
      go_wp2_with fail
      (try simp only [Exit.inBlock, Exit.then]); refine bodyPost_ret (results_rd4 rfl _ _ r0 _ _ _ _ _ _ _ _ _ rfl (Blk.set9 HR.out _ _ _ _ _ _ _ _ _)) rfl ⟨?_, Upd.set9 HU.out (.inr HR1.out) _ _ _ _ _ _ _ _ _⟩
      rw [HV.out, HV2.out]; rfl
    | true =>
      rw [if_neg (by simp)] at HV3
      have g0 := hQ11.cell 0 rfl
      have g1 := hQ11.cell 1 rfl
      have g2 := hQ11.cell 2 rfl
      have g3 := hQ11.cell 3 rfl
      have g4 := hQ11.cell 4 rfl
      have g5 := hQ11.cell 5 rfl
      have g6 := hQ11.cell 6 rfl
      have g7 := hQ11.cell 7 rfl
      have g8 := hQ11.cell 8 rfl
      clear hQ11
      have c0 := hR11.cell 0 rfl
      have c1 := hR11.cell 1 rfl
      have c2 := hR11.cell 2 rfl
      have c3 := hR11.cell 3 rfl
      have c4 := hR11.cell 4 rfl
      have c5 := hR11.cell 5 rfl
      have c6 := hR11.cell 6 rfl
      have c7 := hR11.cell 7 rfl
      have c8 := hR11.cell 8 rfl
      have d0 := hN11.cell 0 rfl
      have d1 := hN11.cell 1 rfl
      have d2 := hN11.cell 2 rfl
      have d3 := hN11.cell 3 rfl
      have d4 := hN11.cell 4 rfl
      have d5 := hN11.cell 5 rfl
      have d6 := hN11.cell 6 rfl
      have d7 := hN11.cell 7 rfl
      have d8 := hN11.cell 8 rfl
      have f0 := hR11.frz 0
      have f1 := hR11.frz 1
      have f2 := hR11.frz 2
      have f3 := hR11.frz 3
      have f4 := hR11.frz 4
      have f5 := hR11.frz 5
      have f6 := hR11.frz 6
      have f7 := hR11.frz 7
      have f8 := hR11.frz 8
      have HR := Lib.hid hR11
      have HN := Lib.hid hN11
      have HU := Lib.hid hU11
      clear hR11 hN11 hU11
      go_wp2_with fail
      (try simp only [Exit.inBlock, Exit.then]); refine bodyPost_ret (results_rd4 rfl _ _ r0 _ _ _ _ _ _ _ _ _ rfl (Blk.set9 HR.out _ _ _ _ _ _ _ _ _)) rfl ⟨?_, Upd.set9 HU.out (.inr HR1.out) _ _ _ _ _ _ _ _ _⟩
      rw [HV.out, HV3.out]; simp [readV, RecD.v]
end Go.Proofs.YtibmhadnfggmlaaDoor
