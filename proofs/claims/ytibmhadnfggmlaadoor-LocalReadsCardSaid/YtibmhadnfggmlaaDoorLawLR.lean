/- The law swinglelaw19.LocalReads: its walk. -/
import Derived.Test.YtibmhadnfggmlaaDoorLocRd
import Derived.Test.YtibmhadnfggmlaaDoorRefRd
import Derived.Test.YtibmhadnfggmlaaDoorTail
import Derived.Test.YtibmhadnfggmlaaDoorLives19
namespace Go.Proofs.YtibmhadnfggmlaaDoor
open Go.RowKit
set_option linter.unusedVariables false

set_option maxRecDepth 100000 in
set_option maxHeartbeats 12800000 in
theorem law_localReads (s0 : ByteArray) (a : Int) (w : World) (hs0 : s0.size ≤ 9223372036854775807) :
    Calls Tryd.prog 8 #[.string s0, .int .i64 a] w fun e w' => e = .returned (.bool true) ∧ Upd [] w w' := by
  have HLV := Lib.hid (fun w => lives19_any w)
  have hc2 : (0 : Int) ≤ min (s0.size : Int) 600 := by omega
  have hc3 : min (s0.size : Int) 600 ≤ (s0.size : Int) := by omega
  obtain ⟨s, hsd⟩ : ∃ s, s = s0.extract 0 (min (s0.size : Int) 600).toNat := ⟨_, rfl⟩
  have hss : s.size ≤ 600 := by rw [hsd, ByteArray.size_extract]; omega
  have HSD := Lib.hid hsd
  clear hsd
  have HL1 := Lib.hid (fun w => locRead_any s a w (by omega))
  have HL2 := Lib.hid (fun w => rlocRead_any s a w (by omega))
  have HT1 := Lib.hid (fun w => tail_any s a w (by omega))
  have HT2 := Lib.hid (fun w => rtail_any s a w (by omega))
  generalize readP s a = R at *
  generalize tailP s a = TL at *
  obtain ⟨⟨p, m, sum, l, wh, k, md, t, pos⟩, n, later, why⟩ := R
  obtain ⟨ts, tl, tw, tz, tok⟩ := TL
  unfold readV RecD.v at HL1 HL2
  unfold tailV at HT1 HT2
  dsimp only at HL1 HL2 HT1 HT2
  go_enter Tryd.func8, Tryd.ntmps8
  go_wp2_with fail
  rw [← HSD.out]
  refine (HL1.out _).mono ?_
  rintro e w1 ⟨rfl, hU1⟩
  have HX1 := Lib.hid (Blk.new w1 [.string p, .int .i64 m, .int .u32 (sum : Nat), .int .i64 l, .int .i64 wh, .int .i64 k, .int .i64 md, .int .u32 (t : Nat), .int .i64 pos] 51)
  have HU1 := Lib.hid (hU1.alloc (.cells #[.string p, .int .i64 m, .int .u32 (sum : Nat), .int .i64 l, .int .i64 wh, .int .i64 k, .int .i64 md, .int .u32 (t : Nat), .int .i64 pos] 51))
  clear hU1
  go_wp2_with fail
  refine (HL2.out _).mono ?_
  rintro e w2 ⟨rfl, hU2⟩
  have HX2 := Lib.hid ((HX1.out.upd hU2 (by simp)).alloc (.cells #[.string p, .int .i64 m, .int .u32 (sum : Nat), .int .i64 l, .int .i64 wh, .int .i64 k, .int .i64 md, .int .u32 (t : Nat), .int .i64 pos] 51))
  have HY2 := Lib.hid (Blk.new w2 [.string p, .int .i64 m, .int .u32 (sum : Nat), .int .i64 l, .int .i64 wh, .int .i64 k, .int .i64 md, .int .u32 (t : Nat), .int .i64 pos] 51)
  have HU2 := Lib.hid ((HU1.out.then hU2).alloc (.cells #[.string p, .int .i64 m, .int .u32 (sum : Nat), .int .i64 l, .int .i64 wh, .int .i64 k, .int .i64 md, .int .u32 (t : Nat), .int .i64 pos] 51))
  clear HX1 HU1 hU2
  go_wp2_with fail
  generalize w1.heap.size = q1 at *
  generalize w2.heap.size = q2 at *
  refine (HT1.out _).mono ?_
  rintro e w3 ⟨rfl, hU3⟩
  have HX3 := Lib.hid (HX2.out.upd hU3 (by simp))
  have HY3 := Lib.hid (HY2.out.upd hU3 (by simp))
  have HU3 := Lib.hid (HU2.out.then hU3)
  clear HX2 HY2 HU2 hU3
  go_wp2_with fail
  refine (HT2.out _).mono ?_
  rintro e w4 ⟨rfl, hU4⟩
  have hX4 := HX3.out.upd hU4 (by simp)
  have hY4 := HY3.out.upd hU4 (by simp)
  have HU4 := Lib.hid (HU3.out.then hU4)
  have c0 := hX4.cell 0 rfl
  have c1 := hX4.cell 1 rfl
  have c2 := hX4.cell 2 rfl
  have c3 := hX4.cell 3 rfl
  have c4 := hX4.cell 4 rfl
  have c5 := hX4.cell 5 rfl
  have c6 := hX4.cell 6 rfl
  have c7 := hX4.cell 7 rfl
  have c8 := hX4.cell 8 rfl
  have d0 := hY4.cell 0 rfl
  have d1 := hY4.cell 1 rfl
  have d2 := hY4.cell 2 rfl
  have d3 := hY4.cell 3 rfl
  have d4 := hY4.cell 4 rfl
  have d5 := hY4.cell 5 rfl
  have d6 := hY4.cell 6 rfl
  have d7 := hY4.cell 7 rfl
  have d8 := hY4.cell 8 rfl
  clear HX3 HY3 HU3 hU4 hX4 hY4
  go_wp2_with fail
  refine (HLV.out _).mono ?_
  rintro e w5 ⟨rfl, hU5⟩
  go_wp2
  go_ret
  exact ⟨rfl, HU4.out.then hU5⟩
end Go.Proofs.YtibmhadnfggmlaaDoor
