/- The law swinglelaw19.LocalBack: its walk. -/
import Derived.Test.YtibmhadnfggmlaaDoorLocRd
import Derived.Test.YtibmhadnfggmlaaDoorLocB
import Derived.Test.YtibmhadnfggmlaaDoorLives19
namespace Go.Proofs.YtibmhadnfggmlaaDoor
open Go.RowKit
set_option linter.unusedVariables false

theorem read_back (r : RecD) (A B : ByteArray) (hf : r.Fits) (hr : recErr r = 0) : readP (A ++ strOf (headP r) ++ B) A.size = (⟨r.p, r.m, r.sum, r.l, r.wh, r.k, 0, r.t, A.size⟩, 30 + (nameP r.k r.p).length, false, 0) := by
  unfold readP
  rw [if_neg (by rw [ByteArray.size_append, ByteArray.size_append]; omega)]
  refine readX_head r _ (bytesOf B) A.size hf hr ?_
  rw [Int.toNat_natCast, bytesOf_extract, bytesOf_append, bytesOf_append, bytesOf_strOf _ (headP_lt r), List.append_assoc, List.drop_left' (length_bytesOf A), List.take_of_length_le]
  rw [List.length_append, length_bytesOf, ByteArray.size_append, ByteArray.size_append, size_strOf]; omega
theorem read_cut (r : RecD) (A : ByteArray) (hf : r.Fits) (hr : recErr r = 0) : readP (A ++ (strOf (headP r)).extract 0 ((strOf (headP r)).size - 1)) A.size = (noneR, 0, false, 3) := by
  unfold readP
  rw [if_neg (by rw [ByteArray.size_append]; omega)]
  refine readX_cut r _ A.size hf hr ?_
  rw [Int.toNat_natCast, bytesOf_extract, bytesOf_append, List.drop_left' (length_bytesOf A), bytesOf_extract, bytesOf_strOf _ (headP_lt r), size_strOf, List.drop_zero, List.dropLast_eq_take, Nat.sub_zero, List.take_of_length_le]
  rw [List.length_take, ByteArray.size_append, ByteArray.size_extract, size_strOf]; omega
set_option maxRecDepth 100000 in
set_option maxHeartbeats 12800000 in
theorem law_localBack (r : RecD) (A0 B0 : ByteArray) (w : World) (hs : r.sum < 4294967296) (ht : r.t < 4294967296) (hp : r.p.size ≤ 9223372036854775807) (hA0 : A0.size ≤ 9223372036854775807) (hB0 : B0.size ≤ 9223372036854775807) :
    Calls Tryd.prog 7 #[r.v, .string A0, .string B0] w fun e w' => e = .returned (.bool true) ∧ Upd [] w w' := by
  have HLV := Lib.hid (fun w => lives19_any w)
  have hc2 : (0 : Int) ≤ min (A0.size : Int) 100 := by omega
  have hc3 : min (A0.size : Int) 100 ≤ (A0.size : Int) := by omega
  have hc4 : (0 : Int) ≤ min (B0.size : Int) 100 := by omega
  have hc5 : min (B0.size : Int) 100 ≤ (B0.size : Int) := by omega
  by_cases hc : r.p.size ≤ 300
  rotate_left
  · obtain ⟨p, m, sum, l, wh, k, md, t, pos⟩ := r
    unfold RecD.v
    dsimp only at *
    have hc1 : 300 < p.size := by omega
    have hU := (Upd.refl [] w).alloc (.cells #[.string p, .int .i64 m, .int .u32 (sum : Nat), .int .i64 l, .int .i64 wh, .int .i64 k, .int .i64 md, .int .u32 (t : Nat), .int .i64 pos] 51)
    have hB := Blk.new w [.string p, .int .i64 m, .int .u32 (sum : Nat), .int .i64 l, .int .i64 wh, .int .i64 k, .int .i64 md, .int .u32 (t : Nat), .int .i64 pos] 51
    go_enter Tryd.func7, Tryd.ntmps7
    go_wp2
    go_quiet (fail)
    generalize w.alloc (.cells #[.string p, .int .i64 m, .int .u32 (sum : Nat), .int .i64 l, .int .i64 wh, .int .i64 k, .int .i64 md, .int .u32 (t : Nat), .int .i64 pos] 51) = w0 at *
    have hB' : Blk (w0.drewN nq) w.heap.size [.string p, .int .i64 m, .int .u32 (sum : Nat), .int .i64 l, .int .i64 wh, .int .i64 k, .int .i64 md, .int .u32 (t : Nat), .int .i64 pos] 51 := hB
    have hU' : Upd [] w (w0.drewN nq) := hU.drewN nq
    generalize w0.drewN nq = w1 at *
    generalize w.heap.size = b0 at *
    have c0 := hB'.cell 0 rfl
    have HU := Lib.hid hU'
    clear hU hU' hB hB'
    go_wp2_with fail
    refine (HLV.out _).mono ?_
    rintro e w2 ⟨rfl, hU1⟩
    go_wp2
    go_ret
    exact ⟨rfl, HU.out.then hU1⟩
  · have hf : r.Fits := ⟨by omega, hs, ht⟩
    have HR := Lib.hid (fun w => lright_any r w hf)
    have HW := Lib.hid (fun w => locWrite_any r w hf)
    have hwr : writeP r = if recErr r = 0 then headP r else [] := rfl
    by_cases hE : recErr r = 0
    rotate_left
    · rw [hwr, if_neg hE] at HW
      clear hwr
      generalize recErr r = E at *
      obtain ⟨p, m, sum, l, wh, k, md, t, pos⟩ := r
      unfold RecD.v at *
      dsimp only at *
      have hc1 : ¬ 300 < p.size := by omega
      have t1 : ((E : Int) != 0) = true := by simpa using hE
      have hU := (Upd.refl [] w).alloc (.cells #[.string p, .int .i64 m, .int .u32 (sum : Nat), .int .i64 l, .int .i64 wh, .int .i64 k, .int .i64 md, .int .u32 (t : Nat), .int .i64 pos] 51)
      have hB := Blk.new w [.string p, .int .i64 m, .int .u32 (sum : Nat), .int .i64 l, .int .i64 wh, .int .i64 k, .int .i64 md, .int .u32 (t : Nat), .int .i64 pos] 51
      go_enter Tryd.func7, Tryd.ntmps7
      go_wp2
      go_quiet (fail)
      generalize w.alloc (.cells #[.string p, .int .i64 m, .int .u32 (sum : Nat), .int .i64 l, .int .i64 wh, .int .i64 k, .int .i64 md, .int .u32 (t : Nat), .int .i64 pos] 51) = w0 at *
      have hB' : Blk (w0.drewN nq) w.heap.size [.string p, .int .i64 m, .int .u32 (sum : Nat), .int .i64 l, .int .i64 wh, .int .i64 k, .int .i64 md, .int .u32 (t : Nat), .int .i64 pos] 51 := hB
      have hU' : Upd [] w (w0.drewN nq) := hU.drewN nq
      generalize w0.drewN nq = w1 at *
      generalize w.heap.size = b0 at *
      have c0 := hB'.cell 0 rfl
      have c1 := hB'.cell 1 rfl
      have c2 := hB'.cell 2 rfl
      have c3 := hB'.cell 3 rfl
      have c4 := hB'.cell 4 rfl
      have c5 := hB'.cell 5 rfl
      have c6 := hB'.cell 6 rfl
      have c7 := hB'.cell 7 rfl
      have c8 := hB'.cell 8 rfl
      have HB := Lib.hid hB'
      have HU := Lib.hid hU'
      clear hU hU' hB hB'
      go_wp2_with fail
      refine (HR.out _).mono ?_
      rintro e w2 ⟨rfl, hU2⟩
      have hB2 := HB.out.upd hU2 (by simp)
      have d0 := hB2.cell 0 rfl
      have d1 := hB2.cell 1 rfl
      have d2 := hB2.cell 2 rfl
      have d3 := hB2.cell 3 rfl
      have d4 := hB2.cell 4 rfl
      have d5 := hB2.cell 5 rfl
      have d6 := hB2.cell 6 rfl
      have d7 := hB2.cell 7 rfl
      have d8 := hB2.cell 8 rfl
      have HU2 := Lib.hid (HU.out.then hU2)
      clear c0 c1 c2 c3 c4 c5 c6 c7 c8 hB2 HB HU hU2
      go_wp2_with fail
      refine (HW.out _).mono ?_
      rintro e w3 ⟨rfl, hU3⟩
      have HU3 := Lib.hid (HU2.out.then hU3)
      have e1 : (strOf []).toList.isEmpty = true := by rw [ByteArray.toList_eq]; rfl
      clear hU3 HU2
      go_wp2_with fail
      refine (HLV.out _).mono ?_
      rintro e w4 ⟨rfl, hU4⟩
      go_wp2
      go_ret
      refine ⟨?_, HU3.out.then hU4⟩
      first
        | rfl
        | (show Ending.returned (.bool (decide (300 < (p.size : Int)) || (strOf []).toList.isEmpty)) = _; rw [e1, Bool.or_true])
    · rw [hwr, if_pos hE] at HW
      rw [hE] at HR
      clear hwr
      obtain ⟨A, hA⟩ : ∃ A, A = A0.extract 0 (min (A0.size : Int) 100).toNat := ⟨_, rfl⟩
      obtain ⟨B, hB⟩ : ∃ B, B = B0.extract 0 (min (B0.size : Int) 100).toNat := ⟨_, rfl⟩
      have hAs : A.size ≤ 100 := by rw [hA, ByteArray.size_extract]; omega
      have hBs : B.size ≤ 100 := by rw [hB, ByteArray.size_extract]; omega
      have HAD := Lib.hid hA
      have HBD := Lib.hid hB
      clear hA hB
      have hnl := nameP_len r.k r.p
      have hsz : (strOf (headP r)).size = 30 + (nameP r.k r.p).length := by rw [size_strOf, headP_len]
      have hl1 : (A ++ strOf (headP r) ++ B).size ≤ 1000000 := by rw [ByteArray.size_append, ByteArray.size_append]; omega
      have hl2 : (A ++ (strOf (headP r)).extract 0 ((strOf (headP r)).size - 1)).size ≤ 1000000 := by rw [ByteArray.size_append, ByteArray.size_extract]; omega
      have HL1 := Lib.hid (fun w => locRead_any (A ++ strOf (headP r) ++ B) A.size w hl1)
      have HL2 := Lib.hid (fun w => locRead_any (A ++ (strOf (headP r)).extract 0 ((strOf (headP r)).size - 1)) A.size w hl2)
      rw [read_back r A B hf hE] at HL1
      rw [read_cut r A hf hE, readV_none] at HL2
      unfold readV RecD.v at HL1
      unfold noneCells at HL2
      dsimp only at HL1 HL2
      have HZ := Lib.hid (fun w => size30_any ⟨r.p, r.m, r.sum, r.l, r.wh, r.k, 0, r.t, A.size⟩ w ⟨hf.p, hf.sum, hf.t⟩)
      unfold RecD.v at HZ
      dsimp only at HZ
      clear hl1 hl2 hE
      have hhd : 1 ≤ (strOf (headP r)).size := by omega
      generalize strOf (headP r) = S at *
      generalize (nameP r.k r.p).length = NL at *
      obtain ⟨p, m, sum, l, wh, k, md, t, pos⟩ := r
      unfold RecD.v at *
      dsimp only at *
      have hc1 : ¬ 300 < p.size := by omega
      have hnl2 : NL ≤ 301 := by omega
      rw [show S.size - 1 = 29 + NL by omega] at HL2
      have hU := (Upd.refl [] w).alloc (.cells #[.string p, .int .i64 m, .int .u32 (sum : Nat), .int .i64 l, .int .i64 wh, .int .i64 k, .int .i64 md, .int .u32 (t : Nat), .int .i64 pos] 51)
      have hB := Blk.new w [.string p, .int .i64 m, .int .u32 (sum : Nat), .int .i64 l, .int .i64 wh, .int .i64 k, .int .i64 md, .int .u32 (t : Nat), .int .i64 pos] 51
      go_enter Tryd.func7, Tryd.ntmps7
      go_wp2
      go_quiet (fail)
      generalize w.alloc (.cells #[.string p, .int .i64 m, .int .u32 (sum : Nat), .int .i64 l, .int .i64 wh, .int .i64 k, .int .i64 md, .int .u32 (t : Nat), .int .i64 pos] 51) = w0 at *
      have hB' : Blk (w0.drewN nq) w.heap.size [.string p, .int .i64 m, .int .u32 (sum : Nat), .int .i64 l, .int .i64 wh, .int .i64 k, .int .i64 md, .int .u32 (t : Nat), .int .i64 pos] 51 := hB
      have hU' : Upd [] w (w0.drewN nq) := hU.drewN nq
      generalize w0.drewN nq = w1 at *
      have HG0 := Lib.hid (Nat.le_refl w.heap.size)
      generalize hb0 : w.heap.size = b0 at *
      have HG : Hid (w.heap.size ≤ b0) := Lib.hid (by omega)
      clear HG0 hb0
      have c0 := hB'.cell 0 rfl
      have c1 := hB'.cell 1 rfl
      have c2 := hB'.cell 2 rfl
      have c3 := hB'.cell 3 rfl
      have c4 := hB'.cell 4 rfl
      have c5 := hB'.cell 5 rfl
      have c6 := hB'.cell 6 rfl
      have c7 := hB'.cell 7 rfl
      have c8 := hB'.cell 8 rfl
      have HB := Lib.hid hB'
      have HU := Lib.hid hU'
      clear hU hU' hB hB'
      go_wp2_with fail
      rw [← HAD.out, ← HBD.out]
      refine (HR.out _).mono ?_
      rintro e w2 ⟨rfl, hU2⟩
      have HB2 := Lib.hid (HB.out.upd hU2 (by simp))
      have hB2 := HB2.out
      have d0 := hB2.cell 0 rfl
      have d1 := hB2.cell 1 rfl
      have d2 := hB2.cell 2 rfl
      have d3 := hB2.cell 3 rfl
      have d4 := hB2.cell 4 rfl
      have d5 := hB2.cell 5 rfl
      have d6 := hB2.cell 6 rfl
      have d7 := hB2.cell 7 rfl
      have d8 := hB2.cell 8 rfl
      have HU2 := Lib.hid (HU.out.then hU2)
      clear c0 c1 c2 c3 c4 c5 c6 c7 c8 hB2 HB HU hU2
      go_wp2_with fail
      refine (HW.out _).mono ?_
      rintro e w3 ⟨rfl, hU3⟩
      have HB3 := Lib.hid (HB2.out.upd hU3 (by simp))
      have HU3 := Lib.hid (HU2.out.then hU3)
      clear d0 d1 d2 d3 d4 d5 d6 d7 d8 hU3 HU2 HB2
      have hB3 := HB3.out
      have c8 := hB3.cell 8 rfl
      have c6 := hB3.cell 6 rfl
      have f8 := hB3.frz 8
      have f6 := hB3.frz 6
      clear hB3
      have hse : (S.toList == []) = false := by
        rw [beq_eq_false_iff_ne]
        intro h
        rw [ByteArray.toList_eq] at h
        have h2 := congrArg List.length h
        rw [Array.length_toList] at h2
        have h3 : S.data.size = S.size := rfl
        rw [h3] at h2
        simp only [List.length_nil] at h2
        omega
      go_wp2_with fail
      refine (HL1.out _).mono ?_
      rintro e w4 ⟨rfl, hU4⟩
      have HB4 := Lib.hid (((HB3.out.set 8 (.int .i64 (A.size : Nat))).set 6 (.int .i64 0)).upd hU4 (by simp))
      have HU4 := Lib.hid (((HU3.out.setCell (p := ⟨b0, 8, none⟩) (.inr HG.out) (.int .i64 (A.size : Nat))).setCell (p := ⟨b0, 6, none⟩) (.inr HG.out) (.int .i64 0)).then hU4)
      have HX := Lib.hid (Blk.new w4 [.string p, .int .i64 m, .int .u32 (sum : Nat), .int .i64 l, .int .i64 wh, .int .i64 k, .int .i64 0, .int .u32 (t : Nat), .int .i64 (A.size : Nat)] 51)
      have HBx := Lib.hid (HB4.out.alloc (.cells #[.string p, .int .i64 m, .int .u32 (sum : Nat), .int .i64 l, .int .i64 wh, .int .i64 k, .int .i64 0, .int .u32 (t : Nat), .int .i64 (A.size : Nat)] 51))
      have HUx := Lib.hid (HU4.out.alloc (.cells #[.string p, .int .i64 m, .int .u32 (sum : Nat), .int .i64 l, .int .i64 wh, .int .i64 k, .int .i64 0, .int .u32 (t : Nat), .int .i64 (A.size : Nat)] 51))
      clear HB3 HU3 HB4 HU4 hU4 c8 c6 f8 f6
      go_wp2_with fail
      refine (HL2.out _).mono ?_
      rintro e w5 ⟨rfl, hU5⟩
      have hX5 := (HX.out.upd hU5 (by simp)).alloc (.cells #[.string ByteArray.empty, .int .i64 0, .int .u32 0, .int .i64 0, .int .i64 0, .int .i64 0, .int .i64 0, .int .u32 0, .int .i64 0] 51)
      have hB5 := (HBx.out.upd hU5 (by simp)).alloc (.cells #[.string ByteArray.empty, .int .i64 0, .int .u32 0, .int .i64 0, .int .i64 0, .int .i64 0, .int .i64 0, .int .u32 0, .int .i64 0] 51)
      have HU5 := Lib.hid (HUx.out.then hU5)
      generalize w4.heap.size = q8 at *
      have x0 := hX5.cell 0 rfl
      have x1 := hX5.cell 1 rfl
      have x2 := hX5.cell 2 rfl
      have x3 := hX5.cell 3 rfl
      have x4 := hX5.cell 4 rfl
      have x5 := hX5.cell 5 rfl
      have x6 := hX5.cell 6 rfl
      have x7 := hX5.cell 7 rfl
      have x8 := hX5.cell 8 rfl
      have HB5 := Lib.hid hB5
      have y0 := hB5.cell 0 rfl
      have y1 := hB5.cell 1 rfl
      have y2 := hB5.cell 2 rfl
      have y3 := hB5.cell 3 rfl
      have y4 := hB5.cell 4 rfl
      have y5 := hB5.cell 5 rfl
      have y6 := hB5.cell 6 rfl
      have y7 := hB5.cell 7 rfl
      have y8 := hB5.cell 8 rfl
      clear hX5 hB5 HX HBx HUx hU5
      go_wp2_with fail
      refine (HZ.out _).mono ?_
      rintro e w6 ⟨rfl, hU6⟩
      have HU6 := Lib.hid ((HU5.out.alloc (.cells #[.string ByteArray.empty, .int .i64 0, .int .u32 0, .int .i64 0, .int .i64 0, .int .i64 0, .int .i64 0, .int .u32 0, .int .i64 0] 51)).then hU6)
      clear hU6
      go_wp2_with fail
      refine (HLV.out _).mono ?_
      rintro e w7 ⟨rfl, hU7⟩
      go_wp2
      go_ret
      exact ⟨rfl, HU6.out.then hU7⟩
end Go.Proofs.YtibmhadnfggmlaaDoor
