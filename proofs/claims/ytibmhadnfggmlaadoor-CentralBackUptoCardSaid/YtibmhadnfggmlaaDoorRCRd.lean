/- Package swingleref20: Read: its walk. -/
import Derived.Test.YtibmhadnfggmlaaDoorGI
import Derived.Test.YtibmhadnfggmlaaDoorGJ
namespace Go.Proofs.YtibmhadnfggmlaaDoor
set_option linter.unusedVariables false
set_option linter.unusedSimpArgs false
set_option linter.unusedSectionVars false
open Go.RowKit
set_option linter.unusedVariables false

set_option maxRecDepth 100000 in
set_option maxHeartbeats 12800000 in
theorem rcenRead_any (s : ByteArray) (a : Int) (w : World) (hs : s.size ≤ 1000000) : Calls Tryd.prog 50 #[.string s, .int .i64 a] w fun e w' => e = .returned (creadV (creadP s a)) ∧ Upd [] w w' := by
  by_cases ha : a < 0 ∨ (s.size : Int) < a
  · have HV : Hid (creadP s a = (noneR, 0, 3)) := Lib.hid (if_pos ha)
    rcases ha with ha | ha
    · go_enter Tryd.func50, Tryd.ntmps50
      go_wp2
      (try simp only [Exit.inBlock, Exit.then]); refine bodyPost_ret (results_rd3 rfl _ _ w.heap.size _ _ _ _ _ _ _ _ _ rfl (Blk.new w [.string .empty, .int .i64 0, .int .u32 0, .int .i64 0, .int .i64 0, .int .i64 0, .int .i64 0, .int .u32 0, .int .i64 0] 51)) rfl ⟨?_, (Upd.refl [] w).alloc _⟩
      rw [HV.out]; rfl
    · have ha0 : ¬ a < 0 := by omega
      go_enter Tryd.func50, Tryd.ntmps50
      go_wp2
      (try simp only [Exit.inBlock, Exit.then]); refine bodyPost_ret (results_rd3 rfl _ _ w.heap.size _ _ _ _ _ _ _ _ _ rfl (Blk.new w [.string .empty, .int .i64 0, .int .u32 0, .int .i64 0, .int .i64 0, .int .i64 0, .int .i64 0, .int .u32 0, .int .i64 0] 51)) rfl ⟨?_, (Upd.refl [] w).alloc _⟩
      rw [HV.out]; rfl
  · obtain ⟨i, rfl⟩ : ∃ i : Nat, a = i := ⟨a.toNat, by omega⟩
    have hi : i ≤ s.size := by omega
    obtain ⟨x, hx⟩ : ∃ x, x = s.extract i s.size := ⟨_, rfl⟩
    clear ha
    by_cases h46 : x.size < 46
    · have hi0 : (0 : Int) ≤ (i : Int) := by omega
      have hi1 : (i : Int) ≤ (s.size : Int) := by omega
      have hxs : x.size = s.size - i := by rw [hx, ByteArray.size_extract]; omega
      have HV : Hid (creadP s i = (noneR, 0, 3)) := Lib.hid (by
        rw [← creadX_short x (.inl h46)]
        unfold creadP; rw [if_neg (by omega), hx]; rfl)
      have hz : (s.size : Int) - (i : Int) < 46 := by omega
      clear hx
      go_enter Tryd.func50, Tryd.ntmps50
      go_wp2
      (try simp only [Exit.inBlock, Exit.then]); refine bodyPost_ret (results_rd3 rfl _ _ w.heap.size _ _ _ _ _ _ _ _ _ rfl (Blk.new w [.string .empty, .int .i64 0, .int .u32 0, .int .i64 0, .int .i64 0, .int .i64 0, .int .i64 0, .int .u32 0, .int .i64 0] 51)) rfl ⟨?_, (Upd.refl [] w).alloc _⟩
      rw [HV.out]; rfl
    · have g46 : 46 ≤ x.size := by omega
      clear h46
      by_cases hg : 46 + gN x 28 2 + gN x 30 2 + gN x 32 2 ≤ x.size ∧ gN x 0 4 = 33639248 ∧ (gN x 8 2 = 2048 ∨ gN x 8 2 = 2056) ∧ x[34].toNat = 0 ∧ x[35].toNat = 0 ∧ (pathP (((bytesOf x).drop 46).take (gN x 28 2))).2.2 = true
      · obtain ⟨g1, g2, g3, g4, g5, g6⟩ := hg
        obtain ⟨⟨pa, kk, okb⟩, hpp⟩ : ∃ p, pathP (((bytesOf x).drop 46).take (gN x 28 2)) = p := ⟨_, rfl⟩
        have hk := pathP_kind12 g6
        rw [hpp] at g6 hk
        dsimp only at g6 hk
        subst g6
        rcases hk with rfl | rfl <;> rcases g3 with g3 | g3
        · exact rcRead_2048_1 s x i w hs hi hx g46 g1 g2 g3 g4 g5 pa hpp
        · exact rcRead_2056_1 s x i w hs hi hx g46 g1 g2 g3 g4 g5 pa hpp
        · exact rcRead_2048_2 s x i w hs hi hx g46 g1 g2 g3 g4 g5 pa hpp
        · exact rcRead_2056_2 s x i w hs hi hx g46 g1 g2 g3 g4 g5 pa hpp
      · have HGD := Lib.hid hg
        clear hg
        have hi0 : (0 : Int) ≤ (i : Int) := by omega
        have hi1 : (i : Int) ≤ (s.size : Int) := by omega
        have hxs : x.size = s.size - i := by rw [hx, ByteArray.size_extract]; omega
        have HV : Hid (creadP s i = creadX x) := Lib.hid (by unfold creadP; rw [if_neg (by omega), hx]; rfl)
        have hz : ¬ (s.size : Int) - (i : Int) < 46 := by omega
        have hx0 : (46 : Int) ≤ (x.size : Int) := by omega
        have hxm : x.size ≤ 1000000 := by omega
        have HAlo := Lib.hid (fun w => rAt_any x 28 2 w (by omega) (by omega) (by omega))
        have Blo := gN_lt x 28 2
        have HAex := Lib.hid (fun w => rAt_any x 30 2 w (by omega) (by omega) (by omega))
        have Bex := gN_lt x 30 2
        have HAre := Lib.hid (fun w => rAt_any x 32 2 w (by omega) (by omega) (by omega))
        have Bre := gN_lt x 32 2
        have HAfl := Lib.hid (fun w => rAt_any x 8 2 w (by omega) (by omega) (by omega))
        have Bfl := gN_lt x 8 2
        have HM := Lib.hid (magic4 x (by omega) [80, 75, 1, 2] 33639248 rfl (by decide))
        have HS := Lib.hid (creadX_short x)
        have HF := Lib.hid (creadX_form x g46)
        have HN := Lib.hid (creadX_name x g46)
        have HPT := Lib.hid (fun w (h : 46 + gN x 28 2 + gN x 30 2 + gN x 32 2 ≤ x.size) => rpath_any (x.extract 46 (46 + gN x 28 2)) w (by rw [ByteArray.size_extract]; omega))
        have hbx : bytesOf (x.extract 46 (46 + gN x 28 2)) = ((bytesOf x).drop 46).take (gN x 28 2) := by rw [bytesOf_extract, Nat.add_sub_cancel_left]
        rw [hbx] at HPT
        clear hbx
        generalize gN x 0 4 = be at *
        generalize gN x 28 2 = lo at *
        generalize gN x 30 2 = ex at *
        generalize gN x 32 2 = re at *
        generalize gN x 8 2 = fl at *
        simp only [Nat.reducePow] at Blo Bex Bre Bfl
        have HXD := Lib.hid hx
        clear hx
        go_enter Tryd.func50, Tryd.ntmps50
        go_wp2_with fail
        rw [← HXD.out]
        have hR0 := Blk.new w [.string .empty, .int .i64 0, .int .u32 0, .int .i64 0, .int .i64 0, .int .i64 0, .int .i64 0, .int .u32 0, .int .i64 0] 51
        have hU0 := (Upd.refl [] w).alloc (.cells #[.string .empty, .int .i64 0, .int .u32 0, .int .i64 0, .int .i64 0, .int .i64 0, .int .i64 0, .int .u32 0, .int .i64 0] 51)
        refine (HAlo.out _).mono ?_
        rintro e w1 ⟨rfl, hu1⟩
        have hR1 := hR0.upd hu1 (by simp)
        have hU1 := hU0.then hu1
        clear hR0 hU0 hu1
        have HR0 := Lib.hid (Nat.le_refl w.heap.size)
        generalize hr0 : w.heap.size = r0 at *
        have HG : Hid (w.heap.size ≤ r0) := Lib.hid (by omega)
        clear HR0 hr0
        go_wp2_with fail
        refine (HAex.out _).mono ?_
        rintro e w2 ⟨rfl, hu2⟩
        have hR2 := hR1.upd hu2 (by simp)
        have hU2 := hU1.then hu2
        clear hR1 hU1 hu2
        go_wp2_with fail
        refine (HAre.out _).mono ?_
        rintro e w3 ⟨rfl, hu3⟩
        have hR3 := hR2.upd hu3 (by simp)
        have hU3 := hU2.then hu3
        clear hR2 hU2 hu3
        by_cases hlen : x.size < 46 + lo + ex + re
        · have HV2 : Hid (creadX x = (noneR, 0, 3)) := Lib.hid (HS.out (.inr hlen))
          have c0 := hR3.cell 0 rfl
          have c1 := hR3.cell 1 rfl
          have c2 := hR3.cell 2 rfl
          have c3 := hR3.cell 3 rfl
          have c4 := hR3.cell 4 rfl
          have c5 := hR3.cell 5 rfl
          have c6 := hR3.cell 6 rfl
          have c7 := hR3.cell 7 rfl
          have c8 := hR3.cell 8 rfl
          have f0 := hR3.frz 0
          have f1 := hR3.frz 1
          have f2 := hR3.frz 2
          have f3 := hR3.frz 3
          have f4 := hR3.frz 4
          have f5 := hR3.frz 5
          have f6 := hR3.frz 6
          have f7 := hR3.frz 7
          have f8 := hR3.frz 8
          have HR := Lib.hid hR3
          have HU := Lib.hid hU3
          clear hR3 hU3
          go_wp2_with fail
          (try simp only [Exit.inBlock, Exit.then]); refine bodyPost_ret (results_rd3 rfl _ _ r0 _ _ _ _ _ _ _ _ _ rfl (Blk.set9 HR.out _ _ _ _ _ _ _ _ _)) rfl ⟨?_, Upd.set9 HU.out (.inr HG.out) _ _ _ _ _ _ _ _ _⟩
          rw [HV.out, HV2.out]; rfl
        · have hl1 : 46 + lo + ex + re ≤ x.size := by omega
          clear hlen
          go_wp2_with fail
          refine (HAfl.out _).mono ?_
          rintro e w4 ⟨rfl, hu4⟩
          have hR4 := hR3.upd hu4 (by simp)
          have hU4 := hU3.then hu4
          clear hR3 hU3 hu4
          by_cases hbe : be = 33639248
          rotate_left
          · have tm : ((x.extract 0 4).toList == [80, 75, 1, 2]) = false := by rw [HM.out]; exact decide_eq_false hbe
            have HV2 : Hid (creadX x = (noneR, 0, 2)) := Lib.hid (HF.out hl1 (by omega))
            have c0 := hR4.cell 0 rfl
            have c1 := hR4.cell 1 rfl
            have c2 := hR4.cell 2 rfl
            have c3 := hR4.cell 3 rfl
            have c4 := hR4.cell 4 rfl
            have c5 := hR4.cell 5 rfl
            have c6 := hR4.cell 6 rfl
            have c7 := hR4.cell 7 rfl
            have c8 := hR4.cell 8 rfl
            have f0 := hR4.frz 0
            have f1 := hR4.frz 1
            have f2 := hR4.frz 2
            have f3 := hR4.frz 3
            have f4 := hR4.frz 4
            have f5 := hR4.frz 5
            have f6 := hR4.frz 6
            have f7 := hR4.frz 7
            have f8 := hR4.frz 8
            have HR := Lib.hid hR4
            have HU := Lib.hid hU4
            clear hR4 hU4
            go_wp2_with fail
            (try simp only [Exit.inBlock, Exit.then]); refine bodyPost_ret (results_rd3 rfl _ _ r0 _ _ _ _ _ _ _ _ _ rfl (Blk.set9 HR.out _ _ _ _ _ _ _ _ _)) rfl ⟨?_, Upd.set9 HU.out (.inr HG.out) _ _ _ _ _ _ _ _ _⟩
            rw [HV.out, HV2.out]; rfl
          · have tm : ((x.extract 0 4).toList == [80, 75, 1, 2]) = true := by rw [HM.out]; exact decide_eq_true hbe
            by_cases hfl : fl = 2048 ∨ fl = 2056
            rotate_left
            · have tf1 : ((fl : Int) != 2048) = true := by rw [bne_iff_ne]; omega
              have tf2 : ((fl : Int) != 2056) = true := by rw [bne_iff_ne]; omega
              have HV2 : Hid (creadX x = (noneR, 0, 2)) := Lib.hid (HF.out hl1 (by omega))
              have c0 := hR4.cell 0 rfl
              have c1 := hR4.cell 1 rfl
              have c2 := hR4.cell 2 rfl
              have c3 := hR4.cell 3 rfl
              have c4 := hR4.cell 4 rfl
              have c5 := hR4.cell 5 rfl
              have c6 := hR4.cell 6 rfl
              have c7 := hR4.cell 7 rfl
              have c8 := hR4.cell 8 rfl
              have f0 := hR4.frz 0
              have f1 := hR4.frz 1
              have f2 := hR4.frz 2
              have f3 := hR4.frz 3
              have f4 := hR4.frz 4
              have f5 := hR4.frz 5
              have f6 := hR4.frz 6
              have f7 := hR4.frz 7
              have f8 := hR4.frz 8
              have HR := Lib.hid hR4
              have HU := Lib.hid hU4
              clear hR4 hU4
              go_wp2_with fail
              (try simp only [Exit.inBlock, Exit.then]); refine bodyPost_ret (results_rd3 rfl _ _ r0 _ _ _ _ _ _ _ _ _ rfl (Blk.set9 HR.out _ _ _ _ _ _ _ _ _)) rfl ⟨?_, Upd.set9 HU.out (.inr HG.out) _ _ _ _ _ _ _ _ _⟩
              rw [HV.out, HV2.out]; rfl
            · rcases hfl with hfl | hfl
              · subst hfl
                have tf1 : (((2048 : Nat) : Int) != 2048) = false := by rw [bne_eq_false_iff_eq]; omega
                by_cases h34 : x[34].toNat = 0
                rotate_left
                · have HV2 : Hid (creadX x = (noneR, 0, 2)) := Lib.hid (HF.out hl1 (by omega))
                  have t34 : ((x[34].toNat : Int) != 0) = true := by rw [bne_iff_ne]; omega
                  have c0 := hR4.cell 0 rfl
                  have c1 := hR4.cell 1 rfl
                  have c2 := hR4.cell 2 rfl
                  have c3 := hR4.cell 3 rfl
                  have c4 := hR4.cell 4 rfl
                  have c5 := hR4.cell 5 rfl
                  have c6 := hR4.cell 6 rfl
                  have c7 := hR4.cell 7 rfl
                  have c8 := hR4.cell 8 rfl
                  have f0 := hR4.frz 0
                  have f1 := hR4.frz 1
                  have f2 := hR4.frz 2
                  have f3 := hR4.frz 3
                  have f4 := hR4.frz 4
                  have f5 := hR4.frz 5
                  have f6 := hR4.frz 6
                  have f7 := hR4.frz 7
                  have f8 := hR4.frz 8
                  have HR := Lib.hid hR4
                  have HU := Lib.hid hU4
                  clear hR4 hU4
                  go_wp2_with fail
                  (try simp only [Exit.inBlock, Exit.then]); refine bodyPost_ret (results_rd3 rfl _ _ r0 _ _ _ _ _ _ _ _ _ rfl (Blk.set9 HR.out _ _ _ _ _ _ _ _ _)) rfl ⟨?_, Upd.set9 HU.out (.inr HG.out) _ _ _ _ _ _ _ _ _⟩
                  rw [HV.out, HV2.out]; rfl
                · have t34 : ((x[34].toNat : Int) != 0) = false := by rw [bne_eq_false_iff_eq]; omega
                  by_cases h35 : x[35].toNat = 0
                  rotate_left
                  · have HV2 : Hid (creadX x = (noneR, 0, 2)) := Lib.hid (HF.out hl1 (by omega))
                    have t35 : ((x[35].toNat : Int) != 0) = true := by rw [bne_iff_ne]; omega
                    have c0 := hR4.cell 0 rfl
                    have c1 := hR4.cell 1 rfl
                    have c2 := hR4.cell 2 rfl
                    have c3 := hR4.cell 3 rfl
                    have c4 := hR4.cell 4 rfl
                    have c5 := hR4.cell 5 rfl
                    have c6 := hR4.cell 6 rfl
                    have c7 := hR4.cell 7 rfl
                    have c8 := hR4.cell 8 rfl
                    have f0 := hR4.frz 0
                    have f1 := hR4.frz 1
                    have f2 := hR4.frz 2
                    have f3 := hR4.frz 3
                    have f4 := hR4.frz 4
                    have f5 := hR4.frz 5
                    have f6 := hR4.frz 6
                    have f7 := hR4.frz 7
                    have f8 := hR4.frz 8
                    have HR := Lib.hid hR4
                    have HU := Lib.hid hU4
                    clear hR4 hU4
                    go_wp2_with fail
                    (try simp only [Exit.inBlock, Exit.then]); refine bodyPost_ret (results_rd3 rfl _ _ r0 _ _ _ _ _ _ _ _ _ rfl (Blk.set9 HR.out _ _ _ _ _ _ _ _ _)) rfl ⟨?_, Upd.set9 HU.out (.inr HG.out) _ _ _ _ _ _ _ _ _⟩
                    rw [HV.out, HV2.out]; rfl
                  · have t35 : ((x[35].toNat : Int) != 0) = false := by rw [bne_eq_false_iff_eq]; omega
                    have hpf : (pathP (((bytesOf x).drop 46).take lo)).2.2 = false := by
                      rw [← Bool.not_eq_true]; intro h; exact HGD.out ⟨hl1, hbe, by omega, h34, h35, h⟩
                    have HV2 : Hid (creadX x = (noneR, 0, 5)) := Lib.hid (HN.out hl1 ⟨hbe, by omega, h34, h35⟩ hpf)
                    have HPT2 := Lib.hid (fun w => HPT.out w hl1)
                    generalize pathP (((bytesOf x).drop 46).take lo) = pp at *
                    obtain ⟨pa, kk, okb⟩ := pp
                    dsimp only at hpf
                    subst hpf
                    unfold pathV at HPT2
                    dsimp only at HPT2
                    clear h34 h35
                    go_wp2_with fail
                    refine (HPT2.out _).mono ?_
                    rintro e w5 ⟨rfl, hu5⟩
                    have hR5 := hR4.upd hu5 (by simp)
                    have hU5 := hU4.then hu5
                    clear hR4 hU4 hu5
                    have c0 := hR5.cell 0 rfl
                    have c1 := hR5.cell 1 rfl
                    have c2 := hR5.cell 2 rfl
                    have c3 := hR5.cell 3 rfl
                    have c4 := hR5.cell 4 rfl
                    have c5 := hR5.cell 5 rfl
                    have c6 := hR5.cell 6 rfl
                    have c7 := hR5.cell 7 rfl
                    have c8 := hR5.cell 8 rfl
                    have f0 := hR5.frz 0
                    have f1 := hR5.frz 1
                    have f2 := hR5.frz 2
                    have f3 := hR5.frz 3
                    have f4 := hR5.frz 4
                    have f5 := hR5.frz 5
                    have f6 := hR5.frz 6
                    have f7 := hR5.frz 7
                    have f8 := hR5.frz 8
                    have HR := Lib.hid hR5
                    have HU := Lib.hid hU5
                    clear hR5 hU5
                    go_wp2_with fail
                    (try simp only [Exit.inBlock, Exit.then]); refine bodyPost_ret (results_rd3 rfl _ _ r0 _ _ _ _ _ _ _ _ _ rfl (Blk.set9 HR.out _ _ _ _ _ _ _ _ _)) rfl ⟨?_, Upd.set9 HU.out (.inr HG.out) _ _ _ _ _ _ _ _ _⟩
                    rw [HV.out, HV2.out]; rfl
              · subst hfl
                have tf1 : (((2056 : Nat) : Int) != 2048) = true := by rw [bne_iff_ne]; omega
                have tf2 : (((2056 : Nat) : Int) != 2056) = false := by rw [bne_eq_false_iff_eq]; omega
                by_cases h34 : x[34].toNat = 0
                rotate_left
                · have HV2 : Hid (creadX x = (noneR, 0, 2)) := Lib.hid (HF.out hl1 (by omega))
                  have t34 : ((x[34].toNat : Int) != 0) = true := by rw [bne_iff_ne]; omega
                  have c0 := hR4.cell 0 rfl
                  have c1 := hR4.cell 1 rfl
                  have c2 := hR4.cell 2 rfl
                  have c3 := hR4.cell 3 rfl
                  have c4 := hR4.cell 4 rfl
                  have c5 := hR4.cell 5 rfl
                  have c6 := hR4.cell 6 rfl
                  have c7 := hR4.cell 7 rfl
                  have c8 := hR4.cell 8 rfl
                  have f0 := hR4.frz 0
                  have f1 := hR4.frz 1
                  have f2 := hR4.frz 2
                  have f3 := hR4.frz 3
                  have f4 := hR4.frz 4
                  have f5 := hR4.frz 5
                  have f6 := hR4.frz 6
                  have f7 := hR4.frz 7
                  have f8 := hR4.frz 8
                  have HR := Lib.hid hR4
                  have HU := Lib.hid hU4
                  clear hR4 hU4
                  go_wp2_with fail
                  (try simp only [Exit.inBlock, Exit.then]); refine bodyPost_ret (results_rd3 rfl _ _ r0 _ _ _ _ _ _ _ _ _ rfl (Blk.set9 HR.out _ _ _ _ _ _ _ _ _)) rfl ⟨?_, Upd.set9 HU.out (.inr HG.out) _ _ _ _ _ _ _ _ _⟩
                  rw [HV.out, HV2.out]; rfl
                · have t34 : ((x[34].toNat : Int) != 0) = false := by rw [bne_eq_false_iff_eq]; omega
                  by_cases h35 : x[35].toNat = 0
                  rotate_left
                  · have HV2 : Hid (creadX x = (noneR, 0, 2)) := Lib.hid (HF.out hl1 (by omega))
                    have t35 : ((x[35].toNat : Int) != 0) = true := by rw [bne_iff_ne]; omega
                    have c0 := hR4.cell 0 rfl
                    have c1 := hR4.cell 1 rfl
                    have c2 := hR4.cell 2 rfl
                    have c3 := hR4.cell 3 rfl
                    have c4 := hR4.cell 4 rfl
                    have c5 := hR4.cell 5 rfl
                    have c6 := hR4.cell 6 rfl
                    have c7 := hR4.cell 7 rfl
                    have c8 := hR4.cell 8 rfl
                    have f0 := hR4.frz 0
                    have f1 := hR4.frz 1
                    have f2 := hR4.frz 2
                    have f3 := hR4.frz 3
                    have f4 := hR4.frz 4
                    have f5 := hR4.frz 5
                    have f6 := hR4.frz 6
                    have f7 := hR4.frz 7
                    have f8 := hR4.frz 8
                    have HR := Lib.hid hR4
                    have HU := Lib.hid hU4
                    clear hR4 hU4
                    go_wp2_with fail
                    (try simp only [Exit.inBlock, Exit.then]); refine bodyPost_ret (results_rd3 rfl _ _ r0 _ _ _ _ _ _ _ _ _ rfl (Blk.set9 HR.out _ _ _ _ _ _ _ _ _)) rfl ⟨?_, Upd.set9 HU.out (.inr HG.out) _ _ _ _ _ _ _ _ _⟩
                    rw [HV.out, HV2.out]; rfl
                  · have t35 : ((x[35].toNat : Int) != 0) = false := by rw [bne_eq_false_iff_eq]; omega
                    have hpf : (pathP (((bytesOf x).drop 46).take lo)).2.2 = false := by
                      rw [← Bool.not_eq_true]; intro h; exact HGD.out ⟨hl1, hbe, by omega, h34, h35, h⟩
                    have HV2 : Hid (creadX x = (noneR, 0, 5)) := Lib.hid (HN.out hl1 ⟨hbe, by omega, h34, h35⟩ hpf)
                    have HPT2 := Lib.hid (fun w => HPT.out w hl1)
                    generalize pathP (((bytesOf x).drop 46).take lo) = pp at *
                    obtain ⟨pa, kk, okb⟩ := pp
                    dsimp only at hpf
                    subst hpf
                    unfold pathV at HPT2
                    dsimp only at HPT2
                    clear h34 h35
                    go_wp2_with fail
                    refine (HPT2.out _).mono ?_
                    rintro e w5 ⟨rfl, hu5⟩
                    have hR5 := hR4.upd hu5 (by simp)
                    have hU5 := hU4.then hu5
                    clear hR4 hU4 hu5
                    have c0 := hR5.cell 0 rfl
                    have c1 := hR5.cell 1 rfl
                    have c2 := hR5.cell 2 rfl
                    have c3 := hR5.cell 3 rfl
                    have c4 := hR5.cell 4 rfl
                    have c5 := hR5.cell 5 rfl
                    have c6 := hR5.cell 6 rfl
                    have c7 := hR5.cell 7 rfl
                    have c8 := hR5.cell 8 rfl
                    have f0 := hR5.frz 0
                    have f1 := hR5.frz 1
                    have f2 := hR5.frz 2
                    have f3 := hR5.frz 3
                    have f4 := hR5.frz 4
                    have f5 := hR5.frz 5
                    have f6 := hR5.frz 6
                    have f7 := hR5.frz 7
                    have f8 := hR5.frz 8
                    have HR := Lib.hid hR5
                    have HU := Lib.hid hU5
                    clear hR5 hU5
                    go_wp2_with fail
                    (try simp only [Exit.inBlock, Exit.then]); refine bodyPost_ret (results_rd3 rfl _ _ r0 _ _ _ _ _ _ _ _ _ rfl (Blk.set9 HR.out _ _ _ _ _ _ _ _ _)) rfl ⟨?_, Upd.set9 HU.out (.inr HG.out) _ _ _ _ _ _ _ _ _⟩
                    rw [HV.out, HV2.out]; rfl
end Go.Proofs.YtibmhadnfggmlaaDoor
