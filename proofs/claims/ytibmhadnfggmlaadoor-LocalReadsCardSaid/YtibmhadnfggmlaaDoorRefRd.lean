/- Package swingleref19: Read: its walk. -/
import Derived.Test.YtibmhadnfggmlaaDoorRefR480
import Derived.Test.YtibmhadnfggmlaaDoorRefR488
import Derived.Test.YtibmhadnfggmlaaDoorRefR560
import Derived.Test.YtibmhadnfggmlaaDoorRefR568
namespace Go.Proofs.YtibmhadnfggmlaaDoor
open Go.RowKit
set_option linter.unusedVariables false

set_option maxRecDepth 100000 in
set_option maxHeartbeats 4000000 in
theorem rlocRead_any (s : ByteArray) (a : Int) (w : World) (hs : s.size ≤ 1000000) : Calls Tryd.prog 42 #[.string s, .int .i64 a] w fun e w' => e = .returned (readV (readP s a)) ∧ Upd [] w w' := by
  by_cases ha : a < 0 ∨ (s.size : Int) < a
  · have HV : Hid (readP s a = (noneR, 0, false, 3)) := Lib.hid (if_pos ha)
    rcases ha with ha | ha
    · go_enter Tryd.func42, Tryd.ntmps42
      go_wp2
      (try simp only [Exit.inBlock, Exit.then]); refine bodyPost_ret (results_rd4 rfl _ _ w.heap.size _ _ _ _ _ _ _ _ _ rfl ((Blk.new w [.string .empty, .int .i64 0, .int .u32 0, .int .i64 0, .int .i64 0, .int .i64 0, .int .i64 0, .int .u32 0, .int .i64 0] 51).alloc _)) rfl ⟨?_, ((Upd.refl [] w).alloc _).alloc _⟩
      rw [HV.out]; rfl
    · have ha0 : ¬ a < 0 := by omega
      go_enter Tryd.func42, Tryd.ntmps42
      go_wp2
      (try simp only [Exit.inBlock, Exit.then]); refine bodyPost_ret (results_rd4 rfl _ _ w.heap.size _ _ _ _ _ _ _ _ _ rfl ((Blk.new w [.string .empty, .int .i64 0, .int .u32 0, .int .i64 0, .int .i64 0, .int .i64 0, .int .i64 0, .int .u32 0, .int .i64 0] 51).alloc _)) rfl ⟨?_, ((Upd.refl [] w).alloc _).alloc _⟩
      rw [HV.out]; rfl
  · obtain ⟨i, rfl⟩ : ∃ i : Nat, a = i := ⟨a.toNat, by omega⟩
    have hi : i ≤ s.size := by omega
    have hi0 : (0 : Int) ≤ (i : Int) := by omega
    have hi1 : (i : Int) ≤ (s.size : Int) := by omega
    obtain ⟨x, hx⟩ : ∃ x, x = s.extract i s.size := ⟨_, rfl⟩
    have hxs : x.size = s.size - i := by rw [hx, ByteArray.size_extract]; omega
    have HV : Hid (readP s i = readX x i) := Lib.hid (by unfold readP; rw [if_neg ha, hx]; rfl)
    clear ha
    by_cases h30 : x.size < 30
    · have HV2 : Hid (readX x i = (noneR, 0, false, 3)) := Lib.hid (if_pos (.inl h30))
      have hz : (s.size : Int) - (i : Int) < 30 := by omega
      go_enter Tryd.func42, Tryd.ntmps42
      go_wp2
      (try simp only [Exit.inBlock, Exit.then]); refine bodyPost_ret (results_rd4 rfl _ _ w.heap.size _ _ _ _ _ _ _ _ _ rfl ((Blk.new w [.string .empty, .int .i64 0, .int .u32 0, .int .i64 0, .int .i64 0, .int .i64 0, .int .i64 0, .int .u32 0, .int .i64 0] 51).alloc _)) rfl ⟨?_, ((Upd.refl [] w).alloc _).alloc _⟩
      rw [HV.out, HV2.out]; rfl
    · by_cases hg : 30 + gN x 26 2 + gN x 28 2 ≤ x.size ∧ gN x 0 4 = 67324752 ∧ (gN x 6 2 = 2048 ∨ gN x 6 2 = 2056) ∧ (gN x 8 2 = 0 ∨ gN x 8 2 = 8)
      · obtain ⟨g1, g2, g3 | g3, g4 | g4⟩ := hg
        · exact rlocRead_2048_0 s x i w hs hi hx (by omega) g1 g2 g3 g4
        · exact rlocRead_2048_8 s x i w hs hi hx (by omega) g1 g2 g3 g4
        · exact rlocRead_2056_0 s x i w hs hi hx (by omega) g1 g2 g3 g4
        · exact rlocRead_2056_8 s x i w hs hi hx (by omega) g1 g2 g3 g4
      · have HGD := Lib.hid hg
        clear hg
        have hz : ¬ (s.size : Int) - (i : Int) < 30 := by omega
        have hx0 : (30 : Int) ≤ (x.size : Int) := by omega
        have hxm : x.size ≤ 1000000 := by omega
        have HAlo := Lib.hid (fun w => rAt_any x 26 2 w (by omega) (by omega) (by omega))
        have Blo := gN_lt x 26 2
        have H_lo : Hid (gN x 26 2 = gN x 26 2) := Lib.hid rfl
        have HAmo := Lib.hid (fun w => rAt_any x 28 2 w (by omega) (by omega) (by omega))
        have Bmo := gN_lt x 28 2
        have H_mo : Hid (gN x 28 2 = gN x 28 2) := Lib.hid rfl
        have HAfl := Lib.hid (fun w => rAt_any x 6 2 w (by omega) (by omega) (by omega))
        have Bfl := gN_lt x 6 2
        have H_fl : Hid (gN x 6 2 = gN x 6 2) := Lib.hid rfl
        have HAme := Lib.hid (fun w => rAt_any x 8 2 w (by omega) (by omega) (by omega))
        have Bme := gN_lt x 8 2
        have H_me : Hid (gN x 8 2 = gN x 8 2) := Lib.hid rfl
        have HAti := Lib.hid (fun w => rAt_any x 10 4 w (by omega) (by omega) (by omega))
        have Bti := gN_lt x 10 4
        have H_ti : Hid (gN x 10 4 = gN x 10 4) := Lib.hid rfl
        have HAsu := Lib.hid (fun w => rAt_any x 14 4 w (by omega) (by omega) (by omega))
        have Bsu := gN_lt x 14 4
        have H_su : Hid (gN x 14 4 = gN x 14 4) := Lib.hid rfl
        have HAla := Lib.hid (fun w => rAt_any x 18 4 w (by omega) (by omega) (by omega))
        have Bla := gN_lt x 18 4
        have H_la : Hid (gN x 18 4 = gN x 18 4) := Lib.hid rfl
        have HAwh := Lib.hid (fun w => rAt_any x 22 4 w (by omega) (by omega) (by omega))
        have Bwh := gN_lt x 22 4
        have H_wh : Hid (gN x 22 4 = gN x 22 4) := Lib.hid rfl
        have HLEN : Hid (hdLen x = 30 + gN x 26 2 + gN x 28 2) := Lib.hid rfl
        have HM := Lib.hid (magic4 x (by omega) [80, 75, 3, 4] 67324752 rfl (by decide))
        have HX : Hid (∀ h : hdLen x ≤ x.size, (hdP ⟨x, 0, false⟩).1 = ⟨gN x 0 4, gN x 6 2, gN x 8 2, gN x 10 4, gN x 14 4, gN x 18 4, gN x 22 4, ((bytesOf x).drop 30).take (gN x 26 2)⟩) := Lib.hid (fun h => by rw [hdP_fine x (by omega) h])
        generalize gN x 0 4 = be at *
        generalize gN x 26 2 = lo at *
        generalize gN x 28 2 = mo at *
        generalize gN x 6 2 = fl at *
        generalize gN x 8 2 = me at *
        generalize gN x 10 4 = ti at *
        generalize gN x 14 4 = su at *
        generalize gN x 18 4 = la at *
        generalize gN x 22 4 = wh at *
        simp only [Nat.reducePow] at Blo Bmo Bfl Bme Bti Bsu Bla Bwh
        have HXD := Lib.hid hx
        clear hx
        go_enter Tryd.func42, Tryd.ntmps42
        go_wp2_with fail
        rw [← HXD.out]
        have hR0 := (Blk.new w [.string .empty, .int .i64 0, .int .u32 0, .int .i64 0, .int .i64 0, .int .i64 0, .int .i64 0, .int .u32 0, .int .i64 0] 51).alloc (.cells #[.string .empty, .int .i64 0, .int .u32 0, .int .i64 0, .int .i64 0, .int .i64 0, .int .i64 0, .int .u32 0, .int .i64 0] 51)
        have hN0 := Blk.new (w.alloc (.cells #[.string .empty, .int .i64 0, .int .u32 0, .int .i64 0, .int .i64 0, .int .i64 0, .int .i64 0, .int .u32 0, .int .i64 0] 51)) [.string .empty, .int .i64 0, .int .u32 0, .int .i64 0, .int .i64 0, .int .i64 0, .int .i64 0, .int .u32 0, .int .i64 0] 51
        have hU0 := ((Upd.refl [] w).alloc (.cells #[.string .empty, .int .i64 0, .int .u32 0, .int .i64 0, .int .i64 0, .int .i64 0, .int .i64 0, .int .u32 0, .int .i64 0] 51)).alloc (.cells #[.string .empty, .int .i64 0, .int .u32 0, .int .i64 0, .int .i64 0, .int .i64 0, .int .i64 0, .int .u32 0, .int .i64 0] 51)
        rw [World.size_alloc] at hN0
        refine (HAlo.out _).mono ?_
        rintro e w1 ⟨rfl, hu1⟩
        have hR1 := hR0.upd hu1 (by simp)
        have hN1 := hN0.upd hu1 (by simp)
        have hU1 := hU0.then hu1
        clear hR0 hN0 hU0 hu1
        go_wp2_with fail
        refine (HAmo.out _).mono ?_
        rintro e w2 ⟨rfl, hu2⟩
        have hR2 := hR1.upd hu2 (by simp)
        have hN2 := hN1.upd hu2 (by simp)
        have hU2 := hU1.then hu2
        clear hR1 hN1 hU1 hu2
        have HR0 := Lib.hid (Nat.le_refl w.heap.size)
        generalize hr0 : w.heap.size = r0 at *
        have HR1 : Hid (w.heap.size ≤ r0) := Lib.hid (by omega)
        clear HR0 hr0
        have c0 := hR2.cell 0 rfl
        have c1 := hR2.cell 1 rfl
        have c2 := hR2.cell 2 rfl
        have c3 := hR2.cell 3 rfl
        have c4 := hR2.cell 4 rfl
        have c5 := hR2.cell 5 rfl
        have c6 := hR2.cell 6 rfl
        have c7 := hR2.cell 7 rfl
        have c8 := hR2.cell 8 rfl
        have d0 := hN2.cell 0 rfl
        have d1 := hN2.cell 1 rfl
        have d2 := hN2.cell 2 rfl
        have d3 := hN2.cell 3 rfl
        have d4 := hN2.cell 4 rfl
        have d5 := hN2.cell 5 rfl
        have d6 := hN2.cell 6 rfl
        have d7 := hN2.cell 7 rfl
        have d8 := hN2.cell 8 rfl
        have f0 := hR2.frz 0
        have f1 := hR2.frz 1
        have f2 := hR2.frz 2
        have f3 := hR2.frz 3
        have f4 := hR2.frz 4
        have f5 := hR2.frz 5
        have f6 := hR2.frz 6
        have f7 := hR2.frz 7
        have f8 := hR2.frz 8
        have HR := Lib.hid hR2
        have HN := Lib.hid hN2
        have HU := Lib.hid hU2
        clear hR2 hN2 hU2
        by_cases hlen : x.size < 30 + lo + mo
        · have HV2 : Hid (readX x i = (noneR, 0, false, 3)) := Lib.hid (if_pos (.inr (by rw [HLEN.out]; exact hlen)))
          go_wp2_with fail
          (try simp only [Exit.inBlock, Exit.then]); refine bodyPost_ret (results_rd4 rfl _ _ r0 _ _ _ _ _ _ _ _ _ rfl (Blk.set9 HR.out _ _ _ _ _ _ _ _ _)) rfl ⟨?_, Upd.set9 HU.out (.inr HR1.out) _ _ _ _ _ _ _ _ _⟩
          rw [HV.out, HV2.out]; rfl
        · have HV3 : Hid (readX x i = if formB (hdP ⟨x, 0, false⟩).1 = false then (noneR, 0, false, 2) else if (pathP (hdP ⟨x, 0, false⟩).1.name).2.2 = false then (noneR, 0, false, 5) else if rtimeB ((pathP (hdP ⟨x, 0, false⟩).1.name).2.1 : Nat) (hdP ⟨x, 0, false⟩).1.t = false then (noneR, 0, false, 13) else (recOf (hdP ⟨x, 0, false⟩).1 i, hdLen x, decide ((hdP ⟨x, 0, false⟩).1.flags = 2056), 0)) := Lib.hid (if_neg (by rw [HLEN.out]; omega))
          rw [HX.out (by rw [HLEN.out]; omega), HLEN.out] at HV3
          clear HX HLEN
          have hl1 : 30 + lo + mo ≤ x.size := by omega
          clear hlen
          go_wp2_with fail
          clear c0 c1 c2 c3 c4 c5 c6 c7 c8 d0 d1 d2 d3 d4 d5 d6 d7 d8 f0 f1 f2 f3 f4 f5 f6 f7 f8
          have hR2 := HR.out
          have hN2 := HN.out
          have hU2 := HU.out
          clear HR HN HU
          refine (HAfl.out _).mono ?_
          rintro e w3 ⟨rfl, hu3⟩
          have hR3 := hR2.upd hu3 (by simp)
          have hN3 := hN2.upd hu3 (by simp)
          have hU3 := hU2.then hu3
          clear hR2 hN2 hU2 hu3
          go_wp2_with fail
          refine (HAme.out _).mono ?_
          rintro e w4 ⟨rfl, hu4⟩
          have hR4 := hR3.upd hu4 (by simp)
          have hN4 := hN3.upd hu4 (by simp)
          have hU4 := hU3.then hu4
          clear hR3 hN3 hU3 hu4
          have c0 := hR4.cell 0 rfl
          have c1 := hR4.cell 1 rfl
          have c2 := hR4.cell 2 rfl
          have c3 := hR4.cell 3 rfl
          have c4 := hR4.cell 4 rfl
          have c5 := hR4.cell 5 rfl
          have c6 := hR4.cell 6 rfl
          have c7 := hR4.cell 7 rfl
          have c8 := hR4.cell 8 rfl
          have d0 := hN4.cell 0 rfl
          have d1 := hN4.cell 1 rfl
          have d2 := hN4.cell 2 rfl
          have d3 := hN4.cell 3 rfl
          have d4 := hN4.cell 4 rfl
          have d5 := hN4.cell 5 rfl
          have d6 := hN4.cell 6 rfl
          have d7 := hN4.cell 7 rfl
          have d8 := hN4.cell 8 rfl
          have f0 := hR4.frz 0
          have f1 := hR4.frz 1
          have f2 := hR4.frz 2
          have f3 := hR4.frz 3
          have f4 := hR4.frz 4
          have f5 := hR4.frz 5
          have f6 := hR4.frz 6
          have f7 := hR4.frz 7
          have f8 := hR4.frz 8
          have HR := Lib.hid hR4
          have HN := Lib.hid hN4
          have HU := Lib.hid hU4
          clear hR4 hN4 hU4
          by_cases hbe : be = 67324752
          rotate_left
          · have tm : ((x.extract 0 4).toList == [80, 75, 3, 4]) = false := by rw [HM.out]; exact decide_eq_false hbe
            have HV2 : Hid (readX x i = (noneR, 0, false, 2)) := Lib.hid (by rw [HV3.out, if_pos (by unfold formB; simp; omega)])
            clear HV3
            go_wp2_with fail
            (try simp only [Exit.inBlock, Exit.then]); refine bodyPost_ret (results_rd4 rfl _ _ r0 _ _ _ _ _ _ _ _ _ rfl (Blk.set9 HR.out _ _ _ _ _ _ _ _ _)) rfl ⟨?_, Upd.set9 HU.out (.inr HR1.out) _ _ _ _ _ _ _ _ _⟩
            rw [HV.out, HV2.out]; rfl
          · have tm : ((x.extract 0 4).toList == [80, 75, 3, 4]) = true := by rw [HM.out]; exact decide_eq_true hbe
            by_cases hfl : fl = 2048 ∨ fl = 2056
            rotate_left
            · have tf1 : ((fl : Int) != 2048) = true := by rw [bne_iff_ne]; omega
              have tf2 : ((fl : Int) != 2056) = true := by rw [bne_iff_ne]; omega
              have HV2 : Hid (readX x i = (noneR, 0, false, 2)) := Lib.hid (by rw [HV3.out, if_pos (by unfold formB; simp; omega)])
              clear HV3
              go_wp2_with fail
              (try simp only [Exit.inBlock, Exit.then]); refine bodyPost_ret (results_rd4 rfl _ _ r0 _ _ _ _ _ _ _ _ _ rfl (Blk.set9 HR.out _ _ _ _ _ _ _ _ _)) rfl ⟨?_, Upd.set9 HU.out (.inr HR1.out) _ _ _ _ _ _ _ _ _⟩
              rw [HV.out, HV2.out]; rfl
            · by_cases hme : me = 0 ∨ me = 8
              rotate_left
              · rcases hfl with rfl | rfl
                · have tf1 : ((me : Int) != 0) = true := by rw [bne_iff_ne]; omega
                  have tf2 : ((me : Int) != 8) = true := by rw [bne_iff_ne]; omega
                  have HV2 : Hid (readX x i = (noneR, 0, false, 2)) := Lib.hid (by rw [HV3.out, if_pos (by unfold formB; simp; omega)])
                  clear HV3
                  go_wp2_with fail
                  (try simp only [Exit.inBlock, Exit.then]); refine bodyPost_ret (results_rd4 rfl _ _ r0 _ _ _ _ _ _ _ _ _ rfl (Blk.set9 HR.out _ _ _ _ _ _ _ _ _)) rfl ⟨?_, Upd.set9 HU.out (.inr HR1.out) _ _ _ _ _ _ _ _ _⟩
                  rw [HV.out, HV2.out]; rfl
                · have tf1 : ((me : Int) != 0) = true := by rw [bne_iff_ne]; omega
                  have tf2 : ((me : Int) != 8) = true := by rw [bne_iff_ne]; omega
                  have HV2 : Hid (readX x i = (noneR, 0, false, 2)) := Lib.hid (by rw [HV3.out, if_pos (by unfold formB; simp; omega)])
                  clear HV3
                  go_wp2_with fail
                  (try simp only [Exit.inBlock, Exit.then]); refine bodyPost_ret (results_rd4 rfl _ _ r0 _ _ _ _ _ _ _ _ _ rfl (Blk.set9 HR.out _ _ _ _ _ _ _ _ _)) rfl ⟨?_, Upd.set9 HU.out (.inr HR1.out) _ _ _ _ _ _ _ _ _⟩
                  rw [HV.out, HV2.out]; rfl
              · exact absurd ⟨hl1, hbe, hfl, hme⟩ HGD.out
end Go.Proofs.YtibmhadnfggmlaaDoor
