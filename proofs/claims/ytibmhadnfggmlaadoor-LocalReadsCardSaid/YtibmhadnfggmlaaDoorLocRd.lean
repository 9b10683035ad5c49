/- Package local: Read: its walk. -/
import Derived.Test.YtibmhadnfggmlaaDoorLocF
import Derived.Test.YtibmhadnfggmlaaDoorHeld
namespace Go.Proofs.YtibmhadnfggmlaaDoor
open Go.RowKit
set_option linter.unusedVariables false

theorem hdP_lt (r : RS) : (hdP r).1.beg < 4294967296 ∧ (hdP r).1.flags < 65536 ∧ (hdP r).1.m < 65536 ∧ (hdP r).1.t < 4294967296 ∧ (hdP r).1.sum < 4294967296 ∧ (hdP r).1.l < 4294967296 ∧ (hdP r).1.wh < 4294967296 ∧ (∀ x ∈ (hdP r).1.name, x < 256) ∧ (hdP r).1.name.length ≤ 65535 := by
  unfold hdP
  dsimp only
  refine ⟨RS.num_lt _ 4, RS.num_lt _ 2, RS.num_lt _ 2, RS.num_lt _ 4, RS.num_lt _ 4, RS.num_lt _ 4, RS.num_lt _ 4, RS.text_lt _ _, ?_⟩
  refine Nat.le_trans (RS.text_len _ _) ?_
  have := RS.num_lt ((((((((r.num 4).2.num 2).2.num 2).2.num 2).2.num 4).2.num 4).2.num 4).2.num 4).2 2
  omega
theorem hdP_s (r : RS) : (hdP r).2.s = r.s := by
  unfold hdP
  dsimp only
  rw [RS.text_s, RS.text_s, RS.num_s, RS.num_s, RS.num_s, RS.num_s, RS.num_s, RS.num_s, RS.num_s, RS.num_s, RS.num_s, RS.num_s]
set_option maxRecDepth 100000 in
set_option maxHeartbeats 12800000 in
theorem locRead_any (s : ByteArray) (a : Int) (w : World) (hs : s.size ≤ 1000000) : Calls Tryd.prog 41 #[.string s, .int .i64 a] w fun e w' => e = .returned (readV (readP s a)) ∧ Upd [] w w' := by
  have BZ : ∀ e : Nat, e < 100 → Hid (∀ w, Calls Tryd.prog 87 #[.int .i64 (e : Nat)] w fun r w' => r = .returned (.tuple #[.agg #[.string { data := #[] }, .int .i64 0, .int .u32 0, .int .i64 0, .int .i64 0, .int .i64 0, .int .i64 0, .int .u32 0, .int .i64 0], .int .i64 0, .bool false, .int .i64 (e : Nat)]) ∧ Upd [] w w') := fun e he => Lib.hid (fun w => bad_any e w he)
  have B3 := BZ 3 (by omega)
  have B2 := BZ 2 (by omega)
  have B5 := BZ 5 (by omega)
  have B13 := BZ 13 (by omega)
  clear BZ
  by_cases ha : a < 0 ∨ (s.size : Int) < a
  · have HV : Hid (readP s a = (noneR, 0, false, 3)) := Lib.hid (if_pos ha)
    rcases ha with ha | ha
    · go_enter Tryd.func41, Tryd.ntmps41
      have hR0 := Blk.new w [.string { data := #[] }, .int .i64 0, .int .u32 0, .int .i64 0, .int .i64 0, .int .i64 0, .int .i64 0, .int .u32 0, .int .i64 0] 51
      have hU0 := (Upd.refl [] w).alloc (.cells #[.string { data := #[] }, .int .i64 0, .int .u32 0, .int .i64 0, .int .i64 0, .int .i64 0, .int .i64 0, .int .u32 0, .int .i64 0] 51)
      have HR0 := Lib.hid hR0
      have HU0 := Lib.hid hU0
      clear hR0 hU0
      have HG0 := Lib.hid (Nat.le_refl w.heap.size)
      go_wp2_with fail
      generalize hr0 : w.heap.size = r0 at *
      have HG : Hid (w.heap.size ≤ r0) := Lib.hid (by omega)
      clear HG0 hr0
      refine (B3.out _).mono ?_
      rintro e v1 ⟨rfl, hv1⟩
      have hRv := HR0.out.upd hv1 (by simp)
      have hUv := HU0.out.then hv1
      clear hv1
      have c0 := hRv.cell 0 rfl
      have c1 := hRv.cell 1 rfl
      have c2 := hRv.cell 2 rfl
      have c3 := hRv.cell 3 rfl
      have c4 := hRv.cell 4 rfl
      have c5 := hRv.cell 5 rfl
      have c6 := hRv.cell 6 rfl
      have c7 := hRv.cell 7 rfl
      have c8 := hRv.cell 8 rfl
      have f0 := hRv.frz 0
      have f1 := hRv.frz 1
      have f2 := hRv.frz 2
      have f3 := hRv.frz 3
      have f4 := hRv.frz 4
      have f5 := hRv.frz 5
      have f6 := hRv.frz 6
      have f7 := hRv.frz 7
      have f8 := hRv.frz 8
      have HRv := Lib.hid hRv
      have HUv := Lib.hid hUv
      clear hRv hUv
      go_wp2_with fail
      (try simp only [Exit.inBlock, Exit.then]); refine bodyPost_ret (results_rd4 rfl _ _ r0 _ _ _ _ _ _ _ _ _ rfl (Blk.set9 HRv.out _ _ _ _ _ _ _ _ _)) rfl ⟨?_, Upd.set9 HUv.out (.inr HG.out) _ _ _ _ _ _ _ _ _⟩
      rw [HV.out]; rfl
    · have ha0 : ¬ a < 0 := by omega
      go_enter Tryd.func41, Tryd.ntmps41
      have hR0 := Blk.new w [.string { data := #[] }, .int .i64 0, .int .u32 0, .int .i64 0, .int .i64 0, .int .i64 0, .int .i64 0, .int .u32 0, .int .i64 0] 51
      have hU0 := (Upd.refl [] w).alloc (.cells #[.string { data := #[] }, .int .i64 0, .int .u32 0, .int .i64 0, .int .i64 0, .int .i64 0, .int .i64 0, .int .u32 0, .int .i64 0] 51)
      have HR0 := Lib.hid hR0
      have HU0 := Lib.hid hU0
      clear hR0 hU0
      have HG0 := Lib.hid (Nat.le_refl w.heap.size)
      go_wp2_with fail
      generalize hr0 : w.heap.size = r0 at *
      have HG : Hid (w.heap.size ≤ r0) := Lib.hid (by omega)
      clear HG0 hr0
      refine (B3.out _).mono ?_
      rintro e v1 ⟨rfl, hv1⟩
      have hRv := HR0.out.upd hv1 (by simp)
      have hUv := HU0.out.then hv1
      clear hv1
      have c0 := hRv.cell 0 rfl
      have c1 := hRv.cell 1 rfl
      have c2 := hRv.cell 2 rfl
      have c3 := hRv.cell 3 rfl
      have c4 := hRv.cell 4 rfl
      have c5 := hRv.cell 5 rfl
      have c6 := hRv.cell 6 rfl
      have c7 := hRv.cell 7 rfl
      have c8 := hRv.cell 8 rfl
      have f0 := hRv.frz 0
      have f1 := hRv.frz 1
      have f2 := hRv.frz 2
      have f3 := hRv.frz 3
      have f4 := hRv.frz 4
      have f5 := hRv.frz 5
      have f6 := hRv.frz 6
      have f7 := hRv.frz 7
      have f8 := hRv.frz 8
      have HRv := Lib.hid hRv
      have HUv := Lib.hid hUv
      clear hRv hUv
      go_wp2_with fail
      (try simp only [Exit.inBlock, Exit.then]); refine bodyPost_ret (results_rd4 rfl _ _ r0 _ _ _ _ _ _ _ _ _ rfl (Blk.set9 HRv.out _ _ _ _ _ _ _ _ _)) rfl ⟨?_, Upd.set9 HUv.out (.inr HG.out) _ _ _ _ _ _ _ _ _⟩
      rw [HV.out]; rfl
  · obtain ⟨i, rfl⟩ : ∃ i : Nat, a = i := ⟨a.toNat, by omega⟩
    have hi : i ≤ s.size := by omega
    have hi0 : (0 : Int) ≤ (i : Int) := by omega
    have hi1 : (i : Int) ≤ (s.size : Int) := by omega
    obtain ⟨x, hx⟩ : ∃ x, x = s.extract i s.size := ⟨_, rfl⟩
    have hxs : x.size ≤ 1000000 := by rw [hx, ByteArray.size_extract]; omega
    have HV : Hid (readP s i = readX x i) := Lib.hid (by unfold readP; rw [if_neg ha, hx]; rfl)
    have HXD := Lib.hid hx
    clear ha hx
    have HBAD := Lib.hid (hdP_bad x)
    have HFINE : Hid (¬ (x.size < 30 ∨ x.size < hdLen x) → (hdP ⟨x, 0, false⟩).2 = ⟨x, hdLen x, false⟩) := Lib.hid (fun h => by rw [hdP_fine x (by omega) (by omega)])
    obtain ⟨b1, b2, b3, b4, b5, b6, b7, b8, b9⟩ := hdP_lt ⟨x, 0, false⟩
    have HRX : Hid (readX x i = if x.size < 30 ∨ x.size < hdLen x then (noneR, 0, false, 3) else if formB (hdP ⟨x, 0, false⟩).1 = false then (noneR, 0, false, 2) else if (pathP (hdP ⟨x, 0, false⟩).1.name).2.2 = false then (noneR, 0, false, 5) else if rtimeB ((pathP (hdP ⟨x, 0, false⟩).1.name).2.1 : Nat) (hdP ⟨x, 0, false⟩).1.t = false then (noneR, 0, false, 13) else (recOf (hdP ⟨x, 0, false⟩).1 i, hdLen x, decide ((hdP ⟨x, 0, false⟩).1.flags = 2056), 0)) := Lib.hid rfl
    have HFL := Lib.hid (fun b w hB => fields_any b ⟨x, 0, false⟩ w hB hxs (Nat.zero_le _))
    generalize hdP ⟨x, 0, false⟩ = hr at *
    obtain ⟨⟨beg, flags, m, t, sum, l, wh, nm⟩, rd⟩ := hr
    unfold HdD.cells at HFL
    unfold recOf at HRX
    dsimp only at *
    have hnz : (strOf nm).size ≤ 1000000 := by rw [size_strOf]; omega
    have HPT := Lib.hid (fun w => path_any (strOf nm) w hnz)
    rw [bytesOf_strOf nm b8] at HPT
    have HPS := Lib.hid (fun h => pathP_size (l := nm) h)
    generalize pathP nm = pp at *
    obtain ⟨pa, kk, okb⟩ := pp
    unfold pathV at HPT
    dsimp only at HPT HPS HRX
    clear hnz b8 b9
    go_enter Tryd.func41, Tryd.ntmps41
    have hR0 := Blk.new w [.string { data := #[] }, .int .i64 0, .int .u32 0, .int .i64 0, .int .i64 0, .int .i64 0, .int .i64 0, .int .u32 0, .int .i64 0] 51
    have hU0 := (Upd.refl [] w).alloc (.cells #[.string { data := #[] }, .int .i64 0, .int .u32 0, .int .i64 0, .int .i64 0, .int .i64 0, .int .i64 0, .int .u32 0, .int .i64 0] 51)
    have hw0 : (w.alloc (.cells #[.string { data := #[] }, .int .i64 0, .int .u32 0, .int .i64 0, .int .i64 0, .int .i64 0, .int .i64 0, .int .u32 0, .int .i64 0] 51)).heap.size = w.heap.size + 1 := by rw [World.size_alloc]
    have HR0 := Lib.hid hR0
    have HU0 := Lib.hid hU0
    clear hR0 hU0
    have HG0 := Lib.hid (Nat.le_refl w.heap.size)
    have HW0 := Lib.hid hw0
    clear hw0
    go_wp2_with fail
    rw [← HXD.out]
    refine (rdRead_any x _).mono ?_
    rintro e w1 ⟨rfl, hRd, hu1⟩
    rw [HW0.out] at hRd ⊢
    generalize hr0 : w.heap.size = r0 at *
    have HG : Hid (w.heap.size ≤ r0) := Lib.hid (by omega)
    clear HG0 hr0
    have hR1 := HR0.out.upd hu1 (by simp)
    have hU1 := HU0.out.then hu1
    have HR1 := Lib.hid hR1
    have HU1 := Lib.hid hU1
    have HRd := Lib.hid hRd
    clear HR0 HU0 hu1 hR1 hU1 hRd
    go_wp2_with fail
    refine (HFL.out _ _ HRd.out).mono ?_
    rintro e w2 ⟨rfl, hRd2, hu2⟩
    have hR2 := HR1.out.upd hu2 (by simp)
    have hU2 := HU1.out.trans hu2 (fun k hk => .inr (by simp at hk; have := HG.out; omega))
    have hQ3 := Blk.new w2 [.string { data := #[] }, .int .i64 (m : Nat), .int .u32 (sum : Nat), .int .i64 (l : Nat), .int .i64 (wh : Nat), .int .i64 0, .int .i64 0, .int .u32 (t : Nat), .int .i64 0, .int .u64 (beg : Nat), .int .u64 (flags : Nat), .string (strOf nm)] 110
    have hR3 := hR2.alloc (.cells #[.string { data := #[] }, .int .i64 (m : Nat), .int .u32 (sum : Nat), .int .i64 (l : Nat), .int .i64 (wh : Nat), .int .i64 0, .int .i64 0, .int .u32 (t : Nat), .int .i64 0, .int .u64 (beg : Nat), .int .u64 (flags : Nat), .string (strOf nm)] 110)
    have hRd3 := Blk.alloc hRd2 (.cells #[.string { data := #[] }, .int .i64 (m : Nat), .int .u32 (sum : Nat), .int .i64 (l : Nat), .int .i64 (wh : Nat), .int .i64 0, .int .i64 0, .int .u32 (t : Nat), .int .i64 0, .int .u64 (beg : Nat), .int .u64 (flags : Nat), .string (strOf nm)] 110)
    have hU3 := hU2.alloc (.cells #[.string { data := #[] }, .int .i64 (m : Nat), .int .u32 (sum : Nat), .int .i64 (l : Nat), .int .i64 (wh : Nat), .int .i64 0, .int .i64 0, .int .u32 (t : Nat), .int .i64 0, .int .u64 (beg : Nat), .int .u64 (flags : Nat), .string (strOf nm)] 110)
    have hq1 : r0 < w2.heap.size := hR2.lt
    have hq2 : r0 + 1 < w2.heap.size := Blk.lt hRd2
    have HR3 := Lib.hid hR3
    have HQ3 := Lib.hid hQ3
    have HRd3 := Lib.hid hRd3
    have HU3 := Lib.hid hU3
    clear HR1 HU1 HRd hu2 hR2 hU2 hRd2 hQ3 hR3 hRd3 hU3
    go_wp2_with fail
    generalize w2.heap.size = q0 at *
    refine (HPT.out _).mono ?_
    rintro e w3 ⟨rfl, hu3⟩
    have hQ4 := HQ3.out.upd hu3 (by simp)
    have hR4 := HR3.out.upd hu3 (by simp)
    have hRd4 := Blk.upd HRd3.out hu3 (by simp)
    have hU4 := HU3.out.then hu3
    clear HQ3 HR3 HRd3 HU3 hu3
    have g0 := hQ4.cell 0 rfl
    have g1 := hQ4.cell 1 rfl
    have g2 := hQ4.cell 2 rfl
    have g3 := hQ4.cell 3 rfl
    have g4 := hQ4.cell 4 rfl
    have g5 := hQ4.cell 5 rfl
    have g6 := hQ4.cell 6 rfl
    have g7 := hQ4.cell 7 rfl
    have g8 := hQ4.cell 8 rfl
    have g9 := hQ4.cell 9 rfl
    have g10 := hQ4.cell 10 rfl
    have g11 := hQ4.cell 11 rfl
    have k0 := hQ4.frz 0
    have k1 := hQ4.frz 1
    have k2 := hQ4.frz 2
    have k3 := hQ4.frz 3
    have k4 := hQ4.frz 4
    have k5 := hQ4.frz 5
    have k6 := hQ4.frz 6
    have k7 := hQ4.frz 7
    have k8 := hQ4.frz 8
    have k9 := hQ4.frz 9
    have k10 := hQ4.frz 10
    have k11 := hQ4.frz 11
    have HR4 := Lib.hid hR4
    have HQ4 := Lib.hid hQ4
    have HRd4 := Lib.hid hRd4
    have HU4 := Lib.hid hU4
    clear hR4 hQ4 hRd4 hU4
    go_wp2_with fail
    clear g0 k0 g1 k1 g2 k2 g3 k3 g4 k4 g5 k5 g6 k6 g7 k7 g8 k8 g9 k9 g10 k10 g11 k11
    have HR5 := Lib.hid (Blk.setFar (Blk.setFar (Blk.setFar HR4.out (a := ⟨q0, 0, none⟩) (.string (strOf pa)) (by simp; omega)) (a := ⟨q0, 5, none⟩) (.int .i64 (kk : Nat)) (by simp; omega)) (a := ⟨q0, 8, none⟩) (.int .i64 (i : Nat)) (by simp; omega))
    have HQ5 := Lib.hid (Blk.set (Blk.set (Blk.set HQ4.out 0 (.string (strOf pa))) 5 (.int .i64 (kk : Nat))) 8 (.int .i64 (i : Nat)))
    have HRd5 := Lib.hid (Blk.setFar (Blk.setFar (Blk.setFar HRd4.out (a := ⟨q0, 0, none⟩) (.string (strOf pa)) (by simp; omega)) (a := ⟨q0, 5, none⟩) (.int .i64 (kk : Nat)) (by simp; omega)) (a := ⟨q0, 8, none⟩) (.int .i64 (i : Nat)) (by simp; omega))
    have HU5 := Lib.hid (Upd.setCell (Upd.setCell (Upd.setCell HU4.out (p := ⟨q0, 0, none⟩) (.inr (by have := HG.out; dsimp only; omega)) (.string (strOf pa))) (p := ⟨q0, 5, none⟩) (.inr (by have := HG.out; dsimp only; omega)) (.int .i64 (kk : Nat))) (p := ⟨q0, 8, none⟩) (.inr (by have := HG.out; dsimp only; omega)) (.int .i64 (i : Nat)))
    clear HR4 HQ4 HRd4 HU4
    generalize ((w3.setCell ⟨q0, 0, none⟩ (.string (strOf pa))).setCell ⟨q0, 5, none⟩ (.int .i64 (kk : Nat))).setCell ⟨q0, 8, none⟩ (.int .i64 (i : Nat)) = w4 at *
    refine (rdFine_any _ _ _ HRd5.out).mono ?_
    rintro e w5 ⟨rfl, rfl⟩
    by_cases hlen : x.size < 30 ∨ x.size < hdLen x
    · have hbd := HBAD.out hlen
      obtain ⟨rs, rp, rb⟩ := rd
      dsimp only at hbd
      subst hbd
      rw [if_pos hlen] at HRX
      clear hlen HFINE HBAD
      go_wp2_with fail
      refine (B3.out _).mono ?_
      rintro e v1 ⟨rfl, hv1⟩
      have hRv := HR5.out.upd hv1 (by simp)
      have hUv := HU5.out.then hv1
      clear hv1
      have c0 := hRv.cell 0 rfl
      have c1 := hRv.cell 1 rfl
      have c2 := hRv.cell 2 rfl
      have c3 := hRv.cell 3 rfl
      have c4 := hRv.cell 4 rfl
      have c5 := hRv.cell 5 rfl
      have c6 := hRv.cell 6 rfl
      have c7 := hRv.cell 7 rfl
      have c8 := hRv.cell 8 rfl
      have f0 := hRv.frz 0
      have f1 := hRv.frz 1
      have f2 := hRv.frz 2
      have f3 := hRv.frz 3
      have f4 := hRv.frz 4
      have f5 := hRv.frz 5
      have f6 := hRv.frz 6
      have f7 := hRv.frz 7
      have f8 := hRv.frz 8
      have HRv := Lib.hid hRv
      have HUv := Lib.hid hUv
      clear hRv hUv
      go_wp2_with fail
      (try simp only [Exit.inBlock, Exit.then]); refine bodyPost_ret (results_rd4 rfl _ _ r0 _ _ _ _ _ _ _ _ _ rfl (Blk.set9 HRv.out _ _ _ _ _ _ _ _ _)) rfl ⟨?_, Upd.set9 HUv.out (.inr HG.out) _ _ _ _ _ _ _ _ _⟩
      rw [HV.out, HRX.out]; rfl
    · have hfn := HFINE.out hlen
      subst hfn
      rw [if_neg hlen] at HRX
      clear hlen HFINE HBAD
      generalize hdLen x = HLN at *
      dsimp only
      have HFM := Lib.hid (fun w => form_any (strOf pa) m sum l wh (kk : Nat) 0 t (i : Nat) beg flags (strOf nm) nm w)
      generalize formB ⟨beg, flags, m, t, sum, l, wh, nm⟩ = fb at *
      have g0 := HQ5.out.cell 0 rfl
      have g1 := HQ5.out.cell 1 rfl
      have g2 := HQ5.out.cell 2 rfl
      have g3 := HQ5.out.cell 3 rfl
      have g4 := HQ5.out.cell 4 rfl
      have g5 := HQ5.out.cell 5 rfl
      have g6 := HQ5.out.cell 6 rfl
      have g7 := HQ5.out.cell 7 rfl
      have g8 := HQ5.out.cell 8 rfl
      have g9 := HQ5.out.cell 9 rfl
      have g10 := HQ5.out.cell 10 rfl
      have g11 := HQ5.out.cell 11 rfl
      go_wp2_with fail
      refine (HFM.out _).mono ?_
      rintro e w6 ⟨rfl, hu6⟩
      clear g0 g1 g2 g3 g4 g5 g6 g7 g8 g9 g10 g11
      have HR6 := Lib.hid (HR5.out.upd hu6 (by simp))
      have HQ6 := Lib.hid (HQ5.out.upd hu6 (by simp))
      have HRd6 := Lib.hid (Blk.upd HRd5.out hu6 (by simp))
      have HU6 := Lib.hid (HU5.out.then hu6)
      clear HR5 HQ5 HRd5 HU5 hu6
      cases fb with
      | false =>
        go_wp2_with fail
        refine (B2.out _).mono ?_
        rintro e v1 ⟨rfl, hv1⟩
        have hRv := HR6.out.upd hv1 (by simp)
        have hUv := HU6.out.then hv1
        clear hv1
        have c0 := hRv.cell 0 rfl
        have c1 := hRv.cell 1 rfl
        have c2 := hRv.cell 2 rfl
        have c3 := hRv.cell 3 rfl
        have c4 := hRv.cell 4 rfl
        have c5 := hRv.cell 5 rfl
        have c6 := hRv.cell 6 rfl
        have c7 := hRv.cell 7 rfl
        have c8 := hRv.cell 8 rfl
        have f0 := hRv.frz 0
        have f1 := hRv.frz 1
        have f2 := hRv.frz 2
        have f3 := hRv.frz 3
        have f4 := hRv.frz 4
        have f5 := hRv.frz 5
        have f6 := hRv.frz 6
        have f7 := hRv.frz 7
        have f8 := hRv.frz 8
        have HRv := Lib.hid hRv
        have HUv := Lib.hid hUv
        clear hRv hUv
        go_wp2_with fail
        (try simp only [Exit.inBlock, Exit.then]); refine bodyPost_ret (results_rd4 rfl _ _ r0 _ _ _ _ _ _ _ _ _ rfl (Blk.set9 HRv.out _ _ _ _ _ _ _ _ _)) rfl ⟨?_, Upd.set9 HUv.out (.inr HG.out) _ _ _ _ _ _ _ _ _⟩
        rw [HV.out, HRX.out]; rfl
      | true =>
        rw [if_neg (by simp)] at HRX
        cases okb with
        | false =>
          go_wp2_with fail
          refine (B5.out _).mono ?_
          rintro e v1 ⟨rfl, hv1⟩
          have hRv := HR6.out.upd hv1 (by simp)
          have hUv := HU6.out.then hv1
          clear hv1
          have c0 := hRv.cell 0 rfl
          have c1 := hRv.cell 1 rfl
          have c2 := hRv.cell 2 rfl
          have c3 := hRv.cell 3 rfl
          have c4 := hRv.cell 4 rfl
          have c5 := hRv.cell 5 rfl
          have c6 := hRv.cell 6 rfl
          have c7 := hRv.cell 7 rfl
          have c8 := hRv.cell 8 rfl
          have f0 := hRv.frz 0
          have f1 := hRv.frz 1
          have f2 := hRv.frz 2
          have f3 := hRv.frz 3
          have f4 := hRv.frz 4
          have f5 := hRv.frz 5
          have f6 := hRv.frz 6
          have f7 := hRv.frz 7
          have f8 := hRv.frz 8
          have HRv := Lib.hid hRv
          have HUv := Lib.hid hUv
          clear hRv hUv
          go_wp2_with fail
          (try simp only [Exit.inBlock, Exit.then]); refine bodyPost_ret (results_rd4 rfl _ _ r0 _ _ _ _ _ _ _ _ _ rfl (Blk.set9 HRv.out _ _ _ _ _ _ _ _ _)) rfl ⟨?_, Upd.set9 HUv.out (.inr HG.out) _ _ _ _ _ _ _ _ _⟩
          rw [HV.out, HRX.out]; rfl
        | true =>
          rw [if_neg (by simp)] at HRX
          have hps := HPS.out rfl
          have hfits : (⟨strOf pa, (m : Nat), sum, (l : Nat), (wh : Nat), (kk : Nat), 0, t, (i : Nat)⟩ : RecD).Fits := ⟨by dsimp only; rw [size_strOf]; omega, by dsimp only; omega, by dsimp only; omega⟩
          have HTM := Lib.hid (fun w => time_any _ w hfits)
          unfold RecD.v at HTM
          dsimp only at HTM
          generalize rtimeB (kk : Int) t = tb at *
          have g0 := HQ6.out.cell 0 rfl
          have g1 := HQ6.out.cell 1 rfl
          have g2 := HQ6.out.cell 2 rfl
          have g3 := HQ6.out.cell 3 rfl
          have g4 := HQ6.out.cell 4 rfl
          have g5 := HQ6.out.cell 5 rfl
          have g6 := HQ6.out.cell 6 rfl
          have g7 := HQ6.out.cell 7 rfl
          have g8 := HQ6.out.cell 8 rfl
          have g9 := HQ6.out.cell 9 rfl
          have g10 := HQ6.out.cell 10 rfl
          have g11 := HQ6.out.cell 11 rfl
          go_wp2_with fail
          refine (HTM.out _).mono ?_
          rintro e w7 ⟨rfl, hu7⟩
          clear g0 g1 g2 g3 g4 g5 g6 g7 g8 g9 g10 g11
          have HR7 := Lib.hid (HR6.out.upd hu7 (by simp))
          have HQ7 := Lib.hid (HQ6.out.upd hu7 (by simp))
          have HRd7 := Lib.hid (Blk.upd HRd6.out hu7 (by simp))
          have HU7 := Lib.hid (HU6.out.then hu7)
          clear HR6 HQ6 HRd6 HU6 hu7
          cases tb with
          | false =>
            go_wp2_with fail
            refine (B13.out _).mono ?_
            rintro e v1 ⟨rfl, hv1⟩
            have hRv := HR7.out.upd hv1 (by simp)
            have hUv := HU7.out.then hv1
            clear hv1
            have c0 := hRv.cell 0 rfl
            have c1 := hRv.cell 1 rfl
            have c2 := hRv.cell 2 rfl
            have c3 := hRv.cell 3 rfl
            have c4 := hRv.cell 4 rfl
            have c5 := hRv.cell 5 rfl
            have c6 := hRv.cell 6 rfl
            have c7 := hRv.cell 7 rfl
            have c8 := hRv.cell 8 rfl
            have f0 := hRv.frz 0
            have f1 := hRv.frz 1
            have f2 := hRv.frz 2
            have f3 := hRv.frz 3
            have f4 := hRv.frz 4
            have f5 := hRv.frz 5
            have f6 := hRv.frz 6
            have f7 := hRv.frz 7
            have f8 := hRv.frz 8
            have HRv := Lib.hid hRv
            have HUv := Lib.hid hUv
            clear hRv hUv
            go_wp2_with fail
            (try simp only [Exit.inBlock, Exit.then]); refine bodyPost_ret (results_rd4 rfl _ _ r0 _ _ _ _ _ _ _ _ _ rfl (Blk.set9 HRv.out _ _ _ _ _ _ _ _ _)) rfl ⟨?_, Upd.set9 HUv.out (.inr HG.out) _ _ _ _ _ _ _ _ _⟩
            rw [HV.out, HRX.out]; rfl
          | true =>
            rw [if_neg (by simp)] at HRX
            have tfl : ((flags : Int) == 2056) = decide (flags = 2056) := by rw [Bool.eq_iff_iff, beq_iff_eq, decide_eq_true_eq]; omega
            have c0 := HR7.out.cell 0 rfl
            have c1 := HR7.out.cell 1 rfl
            have c2 := HR7.out.cell 2 rfl
            have c3 := HR7.out.cell 3 rfl
            have c4 := HR7.out.cell 4 rfl
            have c5 := HR7.out.cell 5 rfl
            have c6 := HR7.out.cell 6 rfl
            have c7 := HR7.out.cell 7 rfl
            have c8 := HR7.out.cell 8 rfl
            have f0 := HR7.out.frz 0
            have f1 := HR7.out.frz 1
            have f2 := HR7.out.frz 2
            have f3 := HR7.out.frz 3
            have f4 := HR7.out.frz 4
            have f5 := HR7.out.frz 5
            have f6 := HR7.out.frz 6
            have f7 := HR7.out.frz 7
            have f8 := HR7.out.frz 8
            go_wp2_with fail
            refine wp_region_held_drew (S := fun w' => Blk w' q0 [.string (strOf pa), .int .i64 (m : Nat), .int .u32 (sum : Nat), .int .i64 (l : Nat), .int .i64 (wh : Nat), .int .i64 (kk : Nat), .int .i64 0, .int .u32 (t : Nat), .int .i64 (i : Nat), .int .u64 (beg : Nat), .int .u64 (flags : Nat), .string (strOf nm)] 110 ∧ Rdr w' (r0 + 1) ⟨x, HLN, false⟩) (by kernel_rfl) ⟨HQ7.out, HRd7.out⟩ (fun hHeld => ?_)
            change wpAnyH _ _ _ _ _ 11 #[false, false, false, false, false, false, false, false, false, false, false] _ _
            refine heldTake (i := 0) (d := some 90) (v := ?v0_1) rfl rfl (by kernel_rfl) (by kernel_rfl) (by kernel_rfl) (fun _ _ _ h => h) (by rfl) ?hy0_1 (by assumption) ?r0_1
            case hy0_1 => (intro w hSw; (try dsimp only at hSw); go_simp; try with_reducible rfl)
            try simp only [Act.put, List.setIfInBounds_toArray, List.set_cons_zero, List.set_cons_succ]
            change wpAnyH _ _ _ _ _ 10 #[true, false, false, false, false, false, false, false, false, false, false] _ _
            refine heldTake (i := 1) (d := some 91) (v := ?v1_2) rfl rfl (by kernel_rfl) (by kernel_rfl) (by kernel_rfl) (fun _ _ _ h => h) (by rfl) ?hy1_2 (by assumption) ?r1_2
            case hy1_2 => (intro w hSw; have q0 := hSw.1.cell 0 rfl; have q1 := hSw.1.cell 1 rfl; have q2 := hSw.1.cell 2 rfl; have q3 := hSw.1.cell 3 rfl; have q4 := hSw.1.cell 4 rfl; have q5 := hSw.1.cell 5 rfl; have q6 := hSw.1.cell 6 rfl; have q7 := hSw.1.cell 7 rfl; have q8 := hSw.1.cell 8 rfl; have q9 := hSw.1.cell 9 rfl; have q10 := hSw.1.cell 10 rfl; have q11 := hSw.1.cell 11 rfl; go_simp; try with_reducible rfl)
            try simp only [Act.put, List.setIfInBounds_toArray, List.set_cons_zero, List.set_cons_succ]
            change wpAnyH _ _ _ _ _ 9 #[true, true, false, false, false, false, false, false, false, false, false] _ _
            refine heldTake (i := 2) (d := some 92) (v := ?v2_3) rfl rfl (by kernel_rfl) (by kernel_rfl) (by kernel_rfl) (fun _ _ _ h => h) (by rfl) ?hy2_3 (by assumption) ?r2_3
            case hy2_3 => (intro w hSw; (try dsimp only at hSw); go_simp; try with_reducible rfl)
            try simp only [Act.put, List.setIfInBounds_toArray, List.set_cons_zero, List.set_cons_succ]
            change wpAnyH _ _ _ _ _ 8 #[true, true, true, false, false, false, false, false, false, false, false] _ _
            refine heldTake (i := 4) (d := some 94) (v := ?v4_4) rfl rfl (by kernel_rfl) (by kernel_rfl) (by kernel_rfl) (fun _ _ _ h => h) (by rfl) ?hy4_4 (by assumption) ?r4_4
            case hy4_4 => (intro w hSw; (try dsimp only at hSw); go_simp; try with_reducible rfl)
            try simp only [Act.put, List.setIfInBounds_toArray, List.set_cons_zero, List.set_cons_succ]
            change wpAnyH _ _ _ _ _ 7 #[true, true, true, false, true, false, false, false, false, false, false] _ _
            refine heldTake (i := 5) (d := some 95) (v := ?v5_5) rfl rfl (by kernel_rfl) (by kernel_rfl) (by kernel_rfl) (fun _ _ _ h => h) (by rfl) ?hy5_5 (by assumption) ?r5_5
            case hy5_5 => (intro w hSw; have q0 := hSw.1.cell 0 rfl; have q1 := hSw.1.cell 1 rfl; have q2 := hSw.1.cell 2 rfl; have q3 := hSw.1.cell 3 rfl; have q4 := hSw.1.cell 4 rfl; have q5 := hSw.1.cell 5 rfl; have q6 := hSw.1.cell 6 rfl; have q7 := hSw.1.cell 7 rfl; have q8 := hSw.1.cell 8 rfl; have q9 := hSw.1.cell 9 rfl; have q10 := hSw.1.cell 10 rfl; have q11 := hSw.1.cell 11 rfl; go_simp; try with_reducible rfl)
            try simp only [Act.put, List.setIfInBounds_toArray, List.set_cons_zero, List.set_cons_succ]
            change wpAnyH _ _ _ _ _ 6 #[true, true, true, false, true, true, false, false, false, false, false] _ _
            refine heldTake (i := 6) (d := some 96) (v := ?v6_6) rfl rfl (by kernel_rfl) (by kernel_rfl) (by kernel_rfl) (fun _ _ _ h => h) (by rfl) ?hy6_6 (by assumption) ?r6_6
            case hy6_6 => (intro w hSw; (try dsimp only at hSw); go_simp; try with_reducible rfl)
            try simp only [Act.put, List.setIfInBounds_toArray, List.set_cons_zero, List.set_cons_succ]
            change wpAnyH _ _ _ _ _ 5 #[true, true, true, false, true, true, true, false, false, false, false] _ _
            refine wpAnyH_ready (rs := [3]) (by kernel_rfl) (by simp) ?_
            refine AllReadyH.cons rfl (fun K hK => ?_) AllReadyH.nil
            go_simp
            refine (rdAt_any _ _ _ hHeld.2).mono ?_
            rintro e z3 ⟨rfl, rfl⟩
            go_wp2
            refine hK.out _ _ hHeld (fun hHeld => ?_)
            clear hK K
            try simp only [Act.put, List.setIfInBounds_toArray, List.set_cons_zero, List.set_cons_succ]
            change wpAnyH _ _ _ _ _ 4 #[true, true, true, true, true, true, true, false, false, false, false] _ _
            refine wpAnyH_ready (rs := [7]) (by kernel_rfl) (by simp) ?_
            refine AllReadyH.cons rfl (fun K hK => ?_) AllReadyH.nil
            go_simp
            have hS9 : Blk (((((((((w7.setCell ⟨r0, 0, none⟩ (.string (strOf pa))).setCell ⟨r0, 1, none⟩ (.int .i64 (m : Nat))).setCell ⟨r0, 2, none⟩ (.int .u32 (sum : Nat))).setCell ⟨r0, 3, none⟩ (.int .i64 (l : Nat))).setCell ⟨r0, 4, none⟩ (.int .i64 (wh : Nat))).setCell ⟨r0, 5, none⟩ (.int .i64 (kk : Nat))).setCell ⟨r0, 6, none⟩ (.int .i64 0)).setCell ⟨r0, 7, none⟩ (.int .u32 (t : Nat))).setCell ⟨r0, 8, none⟩ (.int .i64 (i : Nat))).drew q0 [.string (strOf pa), .int .i64 (m : Nat), .int .u32 (sum : Nat), .int .i64 (l : Nat), .int .i64 (wh : Nat), .int .i64 (kk : Nat), .int .i64 0, .int .u32 (t : Nat), .int .i64 (i : Nat), .int .u64 (beg : Nat), .int .u64 (flags : Nat), .string (strOf nm)] 110 ∧ Rdr (((((((((w7.setCell ⟨r0, 0, none⟩ (.string (strOf pa))).setCell ⟨r0, 1, none⟩ (.int .i64 (m : Nat))).setCell ⟨r0, 2, none⟩ (.int .u32 (sum : Nat))).setCell ⟨r0, 3, none⟩ (.int .i64 (l : Nat))).setCell ⟨r0, 4, none⟩ (.int .i64 (wh : Nat))).setCell ⟨r0, 5, none⟩ (.int .i64 (kk : Nat))).setCell ⟨r0, 6, none⟩ (.int .i64 0)).setCell ⟨r0, 7, none⟩ (.int .u32 (t : Nat))).setCell ⟨r0, 8, none⟩ (.int .i64 (i : Nat))).drew (r0 + 1) ⟨x, HLN, false⟩ := ⟨Blk.drew (Blk.setFar (Blk.setFar (Blk.setFar (Blk.setFar (Blk.setFar (Blk.setFar (Blk.setFar (Blk.setFar (Blk.setFar HQ7.out (a := ⟨r0, 0, none⟩) (.string (strOf pa)) (by simp <;> omega)) (a := ⟨r0, 1, none⟩) (.int .i64 (m : Nat)) (by simp <;> omega)) (a := ⟨r0, 2, none⟩) (.int .u32 (sum : Nat)) (by simp <;> omega)) (a := ⟨r0, 3, none⟩) (.int .i64 (l : Nat)) (by simp <;> omega)) (a := ⟨r0, 4, none⟩) (.int .i64 (wh : Nat)) (by simp <;> omega)) (a := ⟨r0, 5, none⟩) (.int .i64 (kk : Nat)) (by simp <;> omega)) (a := ⟨r0, 6, none⟩) (.int .i64 0) (by simp <;> omega)) (a := ⟨r0, 7, none⟩) (.int .u32 (t : Nat)) (by simp <;> omega)) (a := ⟨r0, 8, none⟩) (.int .i64 (i : Nat)) (by simp <;> omega)), Blk.drew (Blk.setFar (Blk.setFar (Blk.setFar (Blk.setFar (Blk.setFar (Blk.setFar (Blk.setFar (Blk.setFar (Blk.setFar HRd7.out (a := ⟨r0, 0, none⟩) (.string (strOf pa)) (by simp <;> omega)) (a := ⟨r0, 1, none⟩) (.int .i64 (m : Nat)) (by simp <;> omega)) (a := ⟨r0, 2, none⟩) (.int .u32 (sum : Nat)) (by simp <;> omega)) (a := ⟨r0, 3, none⟩) (.int .i64 (l : Nat)) (by simp <;> omega)) (a := ⟨r0, 4, none⟩) (.int .i64 (wh : Nat)) (by simp <;> omega)) (a := ⟨r0, 5, none⟩) (.int .i64 (kk : Nat)) (by simp <;> omega)) (a := ⟨r0, 6, none⟩) (.int .i64 0) (by simp <;> omega)) (a := ⟨r0, 7, none⟩) (.int .u32 (t : Nat)) (by simp <;> omega)) (a := ⟨r0, 8, none⟩) (.int .i64 (i : Nat)) (by simp <;> omega))⟩
            go_wp2
            refine hK.out _ _ hS9 (fun hHeld => ?_)
            clear hK K
            try simp only [Act.put, List.setIfInBounds_toArray, List.set_cons_zero, List.set_cons_succ]
            change wpAnyH _ _ _ _ _ 3 #[true, true, true, true, true, true, true, true, false, false, false] _ _
            refine heldTake (i := 8) (d := some 5) (v := ?v8_9) rfl rfl (by kernel_rfl) (by kernel_rfl) (by kernel_rfl) (fun _ _ _ h => h) (by rfl) ?hy8_9 (by assumption) ?r8_9
            case hy8_9 => (intro w hSw; (try dsimp only at hSw); go_simp; try with_reducible rfl)
            try simp only [Act.put, List.setIfInBounds_toArray, List.set_cons_zero, List.set_cons_succ]
            change wpAnyH _ _ _ _ _ 2 #[true, true, true, true, true, true, true, true, true, false, false] _ _
            refine heldTake (i := 9) (d := some 6) (v := ?v9_10) rfl rfl (by kernel_rfl) (by kernel_rfl) (by kernel_rfl) (fun _ _ _ h => h) (by rfl) ?hy9_10 (by assumption) ?r9_10
            case hy9_10 => (intro w hSw; (try dsimp only at hSw); go_simp; try with_reducible rfl)
            try simp only [Act.put, List.setIfInBounds_toArray, List.set_cons_zero, List.set_cons_succ]
            change wpAnyH _ _ _ _ _ 1 #[true, true, true, true, true, true, true, true, true, true, false] _ _
            refine heldTake (i := 10) (d := some 7) (v := ?v10_11) rfl rfl (by kernel_rfl) (by kernel_rfl) (by kernel_rfl) (fun _ _ _ h => h) (by rfl) ?hy10_11 (by assumption) ?r10_11
            case hy10_11 => (intro w hSw; (try dsimp only at hSw); go_simp; try with_reducible rfl)
            try simp only [Act.put, List.setIfInBounds_toArray, List.set_cons_zero, List.set_cons_succ]
            change wpAnyH _ _ _ _ _ 0 #[true, true, true, true, true, true, true, true, true, true, true] _ _
            refine wpAnyH_done (by kernel_rfl) ?_ 0
            go_wp2_with fail
            (try simp only [Exit.inBlock, Exit.then]); refine bodyPost_ret (results_rd4 rfl _ _ r0 _ _ _ _ _ _ _ _ _ rfl (Blk.drew (Blk.set9 HR7.out _ _ _ _ _ _ _ _ _))) rfl ⟨?_, (Upd.set9 HU7.out (.inr HG.out) _ _ _ _ _ _ _ _ _).drew⟩
            rw [HV.out, HRX.out]; simp [readV, RecD.v]
end Go.Proofs.YtibmhadnfggmlaaDoor
