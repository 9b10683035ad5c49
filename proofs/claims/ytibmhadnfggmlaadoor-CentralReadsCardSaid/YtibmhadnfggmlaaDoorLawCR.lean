/- The law swinglelaw20.CentralReads: its walk. -/
import Derived.Test.YtibmhadnfggmlaaDoorGK
import Derived.Test.YtibmhadnfggmlaaDoorGL
namespace Go.Proofs.YtibmhadnfggmlaaDoor
set_option linter.unusedVariables false
set_option linter.unusedSimpArgs false
set_option linter.unusedSectionVars false
open Go.RowKit
set_option linter.unusedVariables false

theorem callP_len (s : ByteArray) (many : Int) (h : many ≤ 100) : (callP s many).1.length ≤ 100 := by
  unfold callP
  repeat' split
  all_goals first
    | (simp; done)
    | exact Nat.le_trans (crun_len s) (by omega)
set_option maxRecDepth 100000 in
set_option maxHeartbeats 12800000 in
theorem law_centralReads (s0 : ByteArray) (a many : Int) (w : World) (hs0 : s0.size ≤ 9223372036854775807) :
    Calls Tryd.prog 10 #[.string s0, .int .i64 a, .int .i64 many] w fun e w' => e = .returned (.bool true) ∧ Upd [] w w' := by
  have HLV := Lib.hid (fun w => lives20_any w)
  have hc2 : (0 : Int) ≤ min (s0.size : Int) 900 := by omega
  have hc3 : min (s0.size : Int) 900 ≤ (s0.size : Int) := by omega
  obtain ⟨s, hsd⟩ : ∃ s, s = s0.extract 0 (min (s0.size : Int) 900).toNat := ⟨_, rfl⟩
  have hss : s.size ≤ 900 := by rw [hsd, ByteArray.size_extract]; omega
  have HSD := Lib.hid hsd
  clear hsd
  by_cases hm : 100 < many
  · go_enter Tryd.func10, Tryd.ntmps10
    go_wp2_with fail
    refine (HLV.out _).mono ?_
    rintro e w5 ⟨rfl, hU5⟩
    go_wp2
    go_ret
    exact ⟨rfl, hU5⟩
  · have HL1 := Lib.hid (fun w => cenRead_any s a w (by omega))
    have HL2 := Lib.hid (fun w => rcenRead_any s a w (by omega))
    have HT1 := Lib.hid (fun w => cenAll_any s many w (by omega) (by omega))
    have HT2 := Lib.hid (fun w => rcenAll_any s many w (by omega) (by omega))
    have HLN := Lib.hid (callP_len s many (by omega))
    generalize creadP s a = R at *
    generalize callP s many = TL at *
    obtain ⟨⟨p, m, sum, l, wh, k, md, t, pos⟩, n, why⟩ := R
    obtain ⟨L, err⟩ := TL
    unfold creadV RecD.v at HL1 HL2
    unfold callV at HT1 HT2
    dsimp only at HL1 HL2 HT1 HT2 HLN
    have HSM := Lib.hid (fun v1 v2 w h1 h2 => same20_any L v1 v2 w h1 h2 (by have := HLN.out; omega))
    go_enter Tryd.func10, Tryd.ntmps10
    go_wp2_with fail
    rw [← HSD.out]
    refine (HL1.out _).mono ?_
    rintro e w1 ⟨rfl, hU1⟩
    have HX1 := Lib.hid (Blk.new w1 [.string p, .int .i64 m, .int .u32 (sum : Nat), .int .i64 l, .int .i64 wh, .int .i64 k, .int .i64 md, .int .u32 (t : Nat), .int .i64 pos] 51)
    have HU1 := Lib.hid (hU1.alloc (.cells #[.string p, .int .i64 m, .int .u32 (sum : Nat), .int .i64 l, .int .i64 wh, .int .i64 k, .int .i64 md, .int .u32 (t : Nat), .int .i64 pos] 51))
    clear hU1
    go_wp2_with fail
    refine (HL2.out _).mono ?_
    rintro e w2 ⟨rfl, hU2⟩
    have HX2 := Lib.hid ((HX1.out.upd hU2 (by simp)).alloc (.cells #[.string p, .int .i64 m, .int .u32 (sum : Nat), .int .i64 l, .int .i64 wh, .int .i64 k, .int .i64 md, .int .u32 (t : Nat), .int .i64 pos] 51))
    have HY2 := Lib.hid (Blk.new w2 [.string p, .int .i64 m, .int .u32 (sum : Nat), .int .i64 l, .int .i64 wh, .int .i64 k, .int .i64 md, .int .u32 (t : Nat), .int .i64 pos] 51)
    have HU2 := Lib.hid ((HU1.out.then hU2).alloc (.cells #[.string p, .int .i64 m, .int .u32 (sum : Nat), .int .i64 l, .int .i64 wh, .int .i64 k, .int .i64 md, .int .u32 (t : Nat), .int .i64 pos] 51))
    clear HX1 HU1 hU2
    go_wp2_with fail
    generalize w1.heap.size = q1 at *
    generalize w2.heap.size = q2 at *
    refine (HT1.out _).mono ?_
    rintro e w3 ⟨⟨v1, rfl, hr1⟩, hU3⟩
    have HX3 := Lib.hid (HX2.out.upd hU3 (by simp))
    have HY3 := Lib.hid (HY2.out.upd hU3 (by simp))
    have HU3 := Lib.hid (HU2.out.then hU3)
    have HR1 := Lib.hid hr1
    clear HX2 HY2 HU2 hU3 hr1
    go_wp2_with fail
    refine (HT2.out _).mono ?_
    rintro e w4 ⟨⟨v2, rfl, hr2⟩, hU4⟩
    have hX4 := HX3.out.upd hU4 (by simp)
    have hY4 := HY3.out.upd hU4 (by simp)
    have HU4 := Lib.hid (HU3.out.then hU4)
    have HR2 := Lib.hid (HR1.out.upd hU4 (by simp))
    have HRB := Lib.hid hr2
    have c0 := hX4.cell 0 rfl
    have c1 := hX4.cell 1 rfl
    have c2 := hX4.cell 2 rfl
    have c3 := hX4.cell 3 rfl
    have c4 := hX4.cell 4 rfl
    have c5 := hX4.cell 5 rfl
    have c6 := hX4.cell 6 rfl
    have c7 := hX4.cell 7 rfl
    have c8 := hX4.cell 8 rfl
    have d0 := hY4.cell 0 rfl
    have d1 := hY4.cell 1 rfl
    have d2 := hY4.cell 2 rfl
    have d3 := hY4.cell 3 rfl
    have d4 := hY4.cell 4 rfl
    have d5 := hY4.cell 5 rfl
    have d6 := hY4.cell 6 rfl
    have d7 := hY4.cell 7 rfl
    have d8 := hY4.cell 8 rfl
    clear HX3 HY3 HU3 hU4 hX4 hY4 hr2 HR1
    go_wp2_with fail
    refine (HSM.out _ _ _ HR2.out.recsAt HRB.out.recsAt).mono ?_
    rintro e w5 ⟨rfl, hU5⟩
    go_wp2_with fail
    refine (HLV.out _).mono ?_
    rintro e w6 ⟨rfl, hU6⟩
    go_wp2
    go_ret
    exact ⟨rfl, (HU4.out.then hU5).then hU6⟩
end Go.Proofs.YtibmhadnfggmlaaDoor
