/- Package local: Write: its walk. -/
import Derived.Test.YtibmhadnfggmlaaDoorGF
import Derived.Test.YtibmhadnfggmlaaDoorGH
import Derived.Test.YtibmhadnfggmlaaDoorGG
namespace Go.Proofs.YtibmhadnfggmlaaDoor
set_option linter.unusedVariables false
set_option linter.unusedSimpArgs false
set_option linter.unusedSectionVars false
open Go.RowKit
set_option linter.unusedVariables false

theorem wBytes_any (B b : Nat) (l : List Nat) (w : World) (h : Wr B b l w) (h0 : l ≠ []) (hb : ∀ x ∈ l, x < 256) :
    Calls Tryd.prog 85 #[.pointer (some ⟨b, 0, none⟩)] w fun e w' => e = .returned (.string (strOf l)) ∧ Below B w w' := by
  have HS := Lib.hid (bString_any B b l w h h0 hb)
  clear h
  go_enter Tryd.func85, Tryd.ntmps85
  go_wp2_with fail
  refine HS.out.mono ?_
  rintro e w1 ⟨rfl, hF⟩
  go_wp2
  go_ret
  exact ⟨rfl, hF⟩
theorem two_any (B b n : Nat) (l : List Nat) (w : World) (h : Wr B b l w) (hn : n < 9223372036854775808) (hlen : l.length ≤ 100000000) (hBw : B ≤ w.heap.size) :
    Calls Tryd.prog 81 #[.int .i64 (n : Nat), .pointer (some ⟨b, 0, none⟩)] w fun e w' => e = .returned (.tuple #[]) ∧ Wr B b (l ++ leP n 2) w' ∧ Below B w w' := by
  have HS := Lib.hid (wNum_any B b n 2 l w h (by omega) (by omega) hlen hBw)
  clear h
  go_enter Tryd.func81, Tryd.ntmps81
  go_wp2_with fail
  refine HS.out.mono ?_
  rintro e w1 ⟨rfl, hF⟩
  go_wp2
  go_end0
  exact ⟨rfl, hF⟩
theorem four_any (B b n : Nat) (l : List Nat) (w : World) (h : Wr B b l w) (hn : n < 9223372036854775808) (hlen : l.length ≤ 100000000) (hBw : B ≤ w.heap.size) :
    Calls Tryd.prog 83 #[.int .i64 (n : Nat), .pointer (some ⟨b, 0, none⟩)] w fun e w' => e = .returned (.tuple #[]) ∧ Wr B b (l ++ leP n 4) w' ∧ Below B w w' := by
  have HS := Lib.hid (wNum_any B b n 4 l w h (by omega) (by omega) hlen hBw)
  clear h
  go_enter Tryd.func83, Tryd.ntmps83
  go_wp2_with fail
  refine HS.out.mono ?_
  rintro e w1 ⟨rfl, hF⟩
  go_wp2
  go_end0
  exact ⟨rfl, hF⟩
theorem Blk.below {w w' : World} {b B : Nat} {cs : List Value} {t : TypeId} (h : Blk w b cs t) (hb : Below B w w') (hlt : b < B) : Blk w' b cs t := (hb.block b hlt).trans h
set_option maxRecDepth 100000 in
set_option maxHeartbeats 4000000 in
theorem locWrite_any (r : RecD) (w : World) (h : r.Fits) : Calls Tryd.prog 36 #[r.v] w fun e w' => e = .returned (.string (strOf (writeP r))) ∧ Upd [] w w' := by
  have hp := h.p
  have hs := h.sum
  have ht := h.t
  have HR := Lib.hid (fun w => lright_any r w h)
  have HN := Lib.hid (fun w => name_any r w h)
  have hnl := nameP_len r.k r.p
  have HNL := Lib.hid (nameP_lt r.k r.p)
  have HW : Hid (writeP r = if recErr r = 0 then headP r else []) := Lib.hid rfl
  have HH : Hid (headP r = [80, 75, 3, 4, 20, 0, 0, 8] ++ (leP r.m.toNat 2 ++ (leP r.t 4 ++ (leP r.sum 4 ++ (leP r.l.toNat 4 ++ (leP r.wh.toNat 4 ++ (leP (nameP r.k r.p).length 2 ++ ([0, 0] ++ nameP r.k r.p)))))))) := Lib.hid rfl
  have HLT := Lib.hid (headP_lt r)
  have HPT := Lib.hid (fun h0 => laidB_parts (recErr_parts (r := r) h0).2.1)
  generalize headP r = hd at *
  generalize writeP r = wr at *
  by_cases hE : recErr r = 0
  rotate_left
  · rw [if_neg hE] at HW
    generalize recErr r = E at *
    obtain ⟨p, m, sum, l, wh, k, md, t, pos⟩ := r
    unfold RecD.v at *
    dsimp only at *
    have t1 : ((E : Int) != 0) = true := by simpa using hE
    go_enter Tryd.func36, Tryd.ntmps36
    go_wp2_with fail
    refine (HR.out _).mono ?_
    rintro e w1 ⟨rfl, hU1⟩
    have HU := Lib.hid (((Upd.refl [] w).alloc (.cells #[.string p, .int .i64 m, .int .u32 (sum : Nat), .int .i64 l, .int .i64 wh, .int .i64 k, .int .i64 md, .int .u32 (t : Nat), .int .i64 pos] 51)).then hU1)
    go_wp2_with fail
    go_ret
    exact ⟨by rw [HW.out]; rfl, HU.out⟩
  · rw [if_pos hE] at HW
    rw [hE] at HR
    obtain ⟨pm, pl, pw, pa⟩ := HPT.out hE
    clear hE HPT
    have hsz : (strOf (nameP r.k r.p)).size = (nameP r.k r.p).length := size_strOf _
    have HBN := Lib.hid (bytesOf_strOf _ (nameP_lt r.k r.p))
    generalize hS : strOf (nameP r.k r.p) = S at *
    generalize hnm : nameP r.k r.p = nm at *
    obtain ⟨p, m, sum, l, wh, k, md, t, pos⟩ := r
    unfold RecD.v at *
    dsimp only at *
    obtain ⟨mn, rfl⟩ : ∃ mn : Nat, m = mn := ⟨m.toNat, by omega⟩
    obtain ⟨ln, rfl⟩ : ∃ ln : Nat, l = ln := ⟨l.toNat, by omega⟩
    obtain ⟨wn, rfl⟩ : ∃ wn : Nat, wh = wn := ⟨wh.toNat, by omega⟩
    simp only [Int.toNat_natCast] at HH
    have hmn : mn ≤ 8 := by omega
    have hln : ln < 2147483648 := by omega
    have hwn : wn < 2147483648 := by omega
    have hz : (S.size : Int) ≤ 1001 := by omega
    clear pm pl pw pa
    go_enter Tryd.func36, Tryd.ntmps36
    go_wp2_with fail
    refine (HR.out _).mono ?_
    rintro e w1 ⟨rfl, hU1⟩
    have HU := Lib.hid (((Upd.refl [] w).alloc (.cells #[.string p, .int .i64 mn, .int .u32 (sum : Nat), .int .i64 ln, .int .i64 wn, .int .i64 k, .int .i64 md, .int .u32 (t : Nat), .int .i64 pos] 51)).then hU1)
    have hB := (Blk.new w [.string p, .int .i64 mn, .int .u32 (sum : Nat), .int .i64 ln, .int .i64 wn, .int .i64 k, .int .i64 md, .int .u32 (t : Nat), .int .i64 pos] 51).upd hU1 (by simp)
    generalize w.heap.size = b0 at *
    have hlt := hB.lt
    have hW0 := Bld.fresh 99 w1
    have hBB := hB.alloc (.cells #[.pointer none, .slice none 0 0] 99)
    have c0 := hBB.cell 0 rfl
    have c1 := hBB.cell 1 rfl
    have c2 := hBB.cell 2 rfl
    have c3 := hBB.cell 3 rfl
    have c4 := hBB.cell 4 rfl
    have c5 := hBB.cell 5 rfl
    have c6 := hBB.cell 6 rfl
    have c7 := hBB.cell 7 rfl
    have c8 := hBB.cell 8 rfl
    have HBB := Lib.hid hBB
    -- steps
    have hA : w1.heap.size ≤ (w1.alloc (.cells #[.pointer none, .slice none 0 0] 99)).heap.size := by rw [World.size_alloc]; omega
    have HL := Lib.hid (Below.refl w1.heap.size (w1.alloc (.cells #[.pointer none, .slice none 0 0] 99)))
    go_wp2_with fail
    refine (four_any w1.heap.size w1.heap.size (67324752) _ _ hW0 (by omega) (by simp only [List.length_append, leP_len, List.length_nil]; omega) hA).mono ?_
    rintro e x0 ⟨rfl, hWx0, hLx0⟩
    have HLx0 := Lib.hid (HL.out.trans hLx0)
    have hBx0 := HBB.out.below hLx0 hlt
    have hAx0 := Nat.le_trans hA hLx0.size
    clear c0 c1 c2 c3 c4 c5 c6 c7 c8
    have d0 := hBx0.cell 0 rfl
    have d1 := hBx0.cell 1 rfl
    have d2 := hBx0.cell 2 rfl
    have d3 := hBx0.cell 3 rfl
    have d4 := hBx0.cell 4 rfl
    have d5 := hBx0.cell 5 rfl
    have d6 := hBx0.cell 6 rfl
    have d7 := hBx0.cell 7 rfl
    have d8 := hBx0.cell 8 rfl
    have HBx0 := Lib.hid hBx0
    clear hBx0 hLx0
    go_wp2_with fail
    refine (two_any w1.heap.size w1.heap.size (20) _ _ hWx0 (by omega) (by simp only [List.length_append, leP_len, List.length_nil]; omega) hAx0).mono ?_
    rintro e x1 ⟨rfl, hWx1, hLx1⟩
    have HLx1 := Lib.hid (HLx0.out.trans hLx1)
    have hBx1 := HBx0.out.below hLx1 hlt
    have hAx1 := Nat.le_trans hAx0 hLx1.size
    clear d0 d1 d2 d3 d4 d5 d6 d7 d8
    have c0 := hBx1.cell 0 rfl
    have c1 := hBx1.cell 1 rfl
    have c2 := hBx1.cell 2 rfl
    have c3 := hBx1.cell 3 rfl
    have c4 := hBx1.cell 4 rfl
    have c5 := hBx1.cell 5 rfl
    have c6 := hBx1.cell 6 rfl
    have c7 := hBx1.cell 7 rfl
    have c8 := hBx1.cell 8 rfl
    have HBx1 := Lib.hid hBx1
    clear hBx1 hLx1
    go_wp2_with fail
    refine (two_any w1.heap.size w1.heap.size (2048) _ _ hWx1 (by omega) (by simp only [List.length_append, leP_len, List.length_nil]; omega) hAx1).mono ?_
    rintro e x2 ⟨rfl, hWx2, hLx2⟩
    have HLx2 := Lib.hid (HLx1.out.trans hLx2)
    have hBx2 := HBx1.out.below hLx2 hlt
    have hAx2 := Nat.le_trans hAx1 hLx2.size
    clear c0 c1 c2 c3 c4 c5 c6 c7 c8
    have d0 := hBx2.cell 0 rfl
    have d1 := hBx2.cell 1 rfl
    have d2 := hBx2.cell 2 rfl
    have d3 := hBx2.cell 3 rfl
    have d4 := hBx2.cell 4 rfl
    have d5 := hBx2.cell 5 rfl
    have d6 := hBx2.cell 6 rfl
    have d7 := hBx2.cell 7 rfl
    have d8 := hBx2.cell 8 rfl
    have HBx2 := Lib.hid hBx2
    clear hBx2 hLx2
    go_wp2_with fail
    refine (two_any w1.heap.size w1.heap.size (mn) _ _ hWx2 (by omega) (by simp only [List.length_append, leP_len, List.length_nil]; omega) hAx2).mono ?_
    rintro e x3 ⟨rfl, hWx3, hLx3⟩
    have HLx3 := Lib.hid (HLx2.out.trans hLx3)
    have hBx3 := HBx2.out.below hLx3 hlt
    have hAx3 := Nat.le_trans hAx2 hLx3.size
    clear d0 d1 d2 d3 d4 d5 d6 d7 d8
    have c0 := hBx3.cell 0 rfl
    have c1 := hBx3.cell 1 rfl
    have c2 := hBx3.cell 2 rfl
    have c3 := hBx3.cell 3 rfl
    have c4 := hBx3.cell 4 rfl
    have c5 := hBx3.cell 5 rfl
    have c6 := hBx3.cell 6 rfl
    have c7 := hBx3.cell 7 rfl
    have c8 := hBx3.cell 8 rfl
    have HBx3 := Lib.hid hBx3
    clear hBx3 hLx3
    go_wp2_with fail
    refine (four_any w1.heap.size w1.heap.size (t) _ _ hWx3 (by omega) (by simp only [List.length_append, leP_len, List.length_nil]; omega) hAx3).mono ?_
    rintro e x4 ⟨rfl, hWx4, hLx4⟩
    have HLx4 := Lib.hid (HLx3.out.trans hLx4)
    have hBx4 := HBx3.out.below hLx4 hlt
    have hAx4 := Nat.le_trans hAx3 hLx4.size
    clear c0 c1 c2 c3 c4 c5 c6 c7 c8
    have d0 := hBx4.cell 0 rfl
    have d1 := hBx4.cell 1 rfl
    have d2 := hBx4.cell 2 rfl
    have d3 := hBx4.cell 3 rfl
    have d4 := hBx4.cell 4 rfl
    have d5 := hBx4.cell 5 rfl
    have d6 := hBx4.cell 6 rfl
    have d7 := hBx4.cell 7 rfl
    have d8 := hBx4.cell 8 rfl
    have HBx4 := Lib.hid hBx4
    clear hBx4 hLx4
    go_wp2_with fail
    refine (four_any w1.heap.size w1.heap.size (sum) _ _ hWx4 (by omega) (by simp only [List.length_append, leP_len, List.length_nil]; omega) hAx4).mono ?_
    rintro e x5 ⟨rfl, hWx5, hLx5⟩
    have HLx5 := Lib.hid (HLx4.out.trans hLx5)
    have hBx5 := HBx4.out.below hLx5 hlt
    have hAx5 := Nat.le_trans hAx4 hLx5.size
    clear d0 d1 d2 d3 d4 d5 d6 d7 d8
    have c0 := hBx5.cell 0 rfl
    have c1 := hBx5.cell 1 rfl
    have c2 := hBx5.cell 2 rfl
    have c3 := hBx5.cell 3 rfl
    have c4 := hBx5.cell 4 rfl
    have c5 := hBx5.cell 5 rfl
    have c6 := hBx5.cell 6 rfl
    have c7 := hBx5.cell 7 rfl
    have c8 := hBx5.cell 8 rfl
    have HBx5 := Lib.hid hBx5
    clear hBx5 hLx5
    go_wp2_with fail
    refine (four_any w1.heap.size w1.heap.size (ln) _ _ hWx5 (by omega) (by simp only [List.length_append, leP_len, List.length_nil]; omega) hAx5).mono ?_
    rintro e x6 ⟨rfl, hWx6, hLx6⟩
    have HLx6 := Lib.hid (HLx5.out.trans hLx6)
    have hBx6 := HBx5.out.below hLx6 hlt
    have hAx6 := Nat.le_trans hAx5 hLx6.size
    clear c0 c1 c2 c3 c4 c5 c6 c7 c8
    have d0 := hBx6.cell 0 rfl
    have d1 := hBx6.cell 1 rfl
    have d2 := hBx6.cell 2 rfl
    have d3 := hBx6.cell 3 rfl
    have d4 := hBx6.cell 4 rfl
    have d5 := hBx6.cell 5 rfl
    have d6 := hBx6.cell 6 rfl
    have d7 := hBx6.cell 7 rfl
    have d8 := hBx6.cell 8 rfl
    have HBx6 := Lib.hid hBx6
    clear hBx6 hLx6
    go_wp2_with fail
    refine (four_any w1.heap.size w1.heap.size (wn) _ _ hWx6 (by omega) (by simp only [List.length_append, leP_len, List.length_nil]; omega) hAx6).mono ?_
    rintro e x7 ⟨rfl, hWx7, hLx7⟩
    have HLx7 := Lib.hid (HLx6.out.trans hLx7)
    have hBx7 := HBx6.out.below hLx7 hlt
    have hAx7 := Nat.le_trans hAx6 hLx7.size
    clear d0 d1 d2 d3 d4 d5 d6 d7 d8
    have c0 := hBx7.cell 0 rfl
    have c1 := hBx7.cell 1 rfl
    have c2 := hBx7.cell 2 rfl
    have c3 := hBx7.cell 3 rfl
    have c4 := hBx7.cell 4 rfl
    have c5 := hBx7.cell 5 rfl
    have c6 := hBx7.cell 6 rfl
    have c7 := hBx7.cell 7 rfl
    have c8 := hBx7.cell 8 rfl
    have HBx7 := Lib.hid hBx7
    clear hBx7 hLx7
    go_wp2_with fail
    refine (HN.out _).mono ?_
    rintro e x8 ⟨rfl, hN8⟩
    have hWx8 := hWx7.upd hN8
    have hLx8 := (hN8.belowB hAx7)
    have HLx8 := Lib.hid (HLx7.out.trans hLx8)
    have hBx8 := HBx7.out.below hLx8 hlt
    have hAx8 := Nat.le_trans hAx7 hLx8.size
    clear c0 c1 c2 c3 c4 c5 c6 c7 c8
    have d0 := hBx8.cell 0 rfl
    have d1 := hBx8.cell 1 rfl
    have d2 := hBx8.cell 2 rfl
    have d3 := hBx8.cell 3 rfl
    have d4 := hBx8.cell 4 rfl
    have d5 := hBx8.cell 5 rfl
    have d6 := hBx8.cell 6 rfl
    have d7 := hBx8.cell 7 rfl
    have d8 := hBx8.cell 8 rfl
    have HBx8 := Lib.hid hBx8
    clear hBx8 hLx8
    go_wp2_with fail
    refine (two_any w1.heap.size w1.heap.size (nm.length) _ _ hWx8 (by omega) (by simp only [List.length_append, leP_len, List.length_nil]; omega) hAx8).mono ?_
    rintro e x9 ⟨rfl, hWx9, hLx9⟩
    have HLx9 := Lib.hid (HLx8.out.trans hLx9)
    have hBx9 := HBx8.out.below hLx9 hlt
    have hAx9 := Nat.le_trans hAx8 hLx9.size
    clear d0 d1 d2 d3 d4 d5 d6 d7 d8
    have c0 := hBx9.cell 0 rfl
    have c1 := hBx9.cell 1 rfl
    have c2 := hBx9.cell 2 rfl
    have c3 := hBx9.cell 3 rfl
    have c4 := hBx9.cell 4 rfl
    have c5 := hBx9.cell 5 rfl
    have c6 := hBx9.cell 6 rfl
    have c7 := hBx9.cell 7 rfl
    have c8 := hBx9.cell 8 rfl
    have HBx9 := Lib.hid hBx9
    clear hBx9 hLx9
    go_wp2_with fail
    refine (two_any w1.heap.size w1.heap.size (0) _ _ hWx9 (by omega) (by simp only [List.length_append, leP_len, List.length_nil]; omega) hAx9).mono ?_
    rintro e x10 ⟨rfl, hWx10, hLx10⟩
    have HLx10 := Lib.hid (HLx9.out.trans hLx10)
    have hBx10 := HBx9.out.below hLx10 hlt
    have hAx10 := Nat.le_trans hAx9 hLx10.size
    clear c0 c1 c2 c3 c4 c5 c6 c7 c8
    have d0 := hBx10.cell 0 rfl
    have d1 := hBx10.cell 1 rfl
    have d2 := hBx10.cell 2 rfl
    have d3 := hBx10.cell 3 rfl
    have d4 := hBx10.cell 4 rfl
    have d5 := hBx10.cell 5 rfl
    have d6 := hBx10.cell 6 rfl
    have d7 := hBx10.cell 7 rfl
    have d8 := hBx10.cell 8 rfl
    have HBx10 := Lib.hid hBx10
    clear hBx10 hLx10
    go_wp2_with fail
    refine (HN.out _).mono ?_
    rintro e y1 ⟨rfl, hN1⟩
    have hW1 := hWx10.upd hN1
    have HL1 := Lib.hid (HLx10.out.trans (hN1.belowB hAx10))
    have hA1 := Nat.le_trans hAx10 hN1.size
    go_wp2_with fail
    have hU2 := (Upd.refl [] y1).alloc (.cells #[.string S] 9)
    refine (wText_any w1.heap.size w1.heap.size y1.heap.size _ S _ (hW1.upd hU2) ((Blk.new y1 [.string S] 9).cell 0 rfl) (by simp only [List.length_append, leP_len, List.length_nil]; omega) (by have := hU2.size; omega)).mono ?_
    rintro e y2 ⟨rfl, hW2, hL2⟩
    have HL2 := Lib.hid ((HL1.out.trans (hU2.belowB hA1)).trans hL2)
    rw [HBN.out] at hW2
    have hhd : [] ++ leP 67324752 4 ++ leP 20 2 ++ leP 2048 2 ++ leP mn 2 ++ leP t 4 ++ leP sum 4 ++ leP ln 4 ++ leP wn 4 ++ leP nm.length 2 ++ leP 0 2 ++ nm = hd := by
      rw [HH.out]
      simp [List.append_assoc, leP]
    rw [hhd] at hW2
    go_wp2_with fail
    refine (wBytes_any _ _ hd _ hW2 (by rw [HH.out]; simp) HLT.out).mono ?_
    rintro e y3 ⟨rfl, hL3⟩
    have HL3 := Lib.hid (HL2.out.trans hL3)
    go_wp2
    go_ret
    refine ⟨by rw [HW.out]; rfl, ?_⟩
    exact HU.out.then (Upd.of_below ((((Upd.refl [] w1).alloc _).below).trans HL3.out))
end Go.Proofs.YtibmhadnfggmlaaDoor
