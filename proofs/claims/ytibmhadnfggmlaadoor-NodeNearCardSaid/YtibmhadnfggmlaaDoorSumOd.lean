/- Package sum: Step, Feed, Of: walks. -/
import Derived.Test.YtibmhadnfggmlaaDoorSumMd
namespace Go.Proofs.YtibmhadnfggmlaaDoor
set_option linter.unusedVariables false
set_option linter.unusedSimpArgs false
set_option linter.unusedSectionVars false
open Go.RowKit
set_option linter.unusedVariables false

set_option maxRecDepth 100000 in
set_option maxHeartbeats 1600000 in
theorem step_any (b0 s b : Nat) (w : World) (hB : Blk w b0 (u32v tabL) 138) (hs : s < 4294967296) (hb : b < 256) :
    Calls Tryd.prog 144 #[.pointer (some ⟨b0, 0, none⟩), .int .u32 (s : Nat), .int .u8 (b : Nat)] w fun e w' => e = .returned (.int .u32 (crcByte s b : Nat)) ∧ w = w' := by
  have hct := crc_table s b
  obtain ⟨r, hr⟩ : ∃ r, r = s % 256 := ⟨_, rfl⟩
  have z1 : (s : Int) % 256 = (r : Int) := by omega
  have hr2 : r < 256 := by omega
  have hx := xor_u8 r b hr2 hb
  have hq : r ^^^ b < 256 := Nat.xor_lt_two_pow (n := 8) hr2 hb
  rw [← hr] at hct
  generalize r ^^^ b = q at *
  have c1 := hB.cell q (u32v_get (tabL_get hq))
  have hy : crcN 8 q < 4294967296 := crcN_lt 8 (by omega)
  have hxx := xor_u32 (crcN 8 q) (s / 256) hy (by omega)
  rw [hct] at hxx
  have q0 : (0 : Int) ≤ (q : Int) := by omega
  have q1 : (q : Int) < 256 := by omega
  have e2 : ((s / 256 : Nat) : Int) = (s : Int) / 256 := by omega
  rw [e2] at hxx
  have HR := Lib.hid hxx
  clear hct hxx e2 hr hB
  generalize crcN 8 q = y at *
  generalize crcByte s b = z at *
  go_enter Tryd.func144, Tryd.ntmps144
  go_wp2
  go_returns
  exact ⟨by exact congrArg (fun z => Ending.returned (.int .u32 z)) HR.out, rfl⟩
set_option maxRecDepth 100000 in
set_option maxHeartbeats 1600000 in
theorem feed_any (b0 sb s : Nat) (T : ByteArray) (w : World) (hB : Blk w b0 (u32v tabL) 138) (hs : s < 4294967296) (hT : T.size ≤ 9223372036854775807) (hc0 : w.cell? ⟨sb, 0, none⟩ = some (.string T)) :
    Calls Tryd.prog 117 #[.pointer (some ⟨b0, 0, none⟩), .int .u32 (s : Nat), .slice (some ⟨sb, 0, none⟩) 1 1] w fun e w' => e = .returned (.int .u32 (crcFeed s (bytesOf T) : Nat)) ∧ w = w' := by
  have hlen := length_bytesOf T
  go_enter Tryd.func117, Tryd.ntmps117
  go_wp2
  go_loopg [1, 12] 1 (fun g s1 s12 wr => ∃ i x, i ≤ 1 ∧ g = 1 - i ∧ s12 = .int .i64 (i : Nat) ∧ s1 = .int .u32 (x : Nat) ∧ Hid ((i = 0 → x = s) ∧ (i = 1 → x = crcFeed s (bytesOf T))) ∧ w = wr)
  case atStart => exact ⟨0, s, by omega, rfl, rfl, rfl, Lib.hid ⟨fun _ => rfl, fun h => by omega⟩, rfl⟩
  case round =>
    obtain ⟨i, x, hi, rfl, rfl, rfl, H, rfl⟩ := hrel
    rcases (by omega : i = 0 ∨ i = 1) with rfl | rfl
    · have hx0 := H.out.1 rfl
      subst hx0
      clear H
      go_wp2
      go_loopg [1, 18] T.size (fun g s1 s18 wr => ∃ i y, i ≤ T.size ∧ g = T.size - i ∧ s18 = .int .i64 (i : Nat) ∧ s1 = .int .u32 (y : Nat) ∧ y < 4294967296 ∧ Hid (y = crcFeed x ((bytesOf T).take i)) ∧ w = wr)
      case atStart => exact ⟨0, x, by omega, rfl, rfl, rfl, hs, Lib.hid rfl, rfl⟩
      case round =>
        obtain ⟨i, y, hi, rfl, rfl, rfl, hy, H, rfl⟩ := hrel
        by_cases hc : i < T.size
        · have hcz : (i : Int) < (T.size : Int) := by omega
          have hil : i < (bytesOf T).length := by omega
          have hb : (bytesOf T)[i] = T[i].toNat := bytesOf_get T i hc hil
          have hst : crcFeed x ((bytesOf T).take (i + 1)) = crcByte y T[i].toNat := by
            rw [List.take_succ_eq_append_getElem hil, crcFeed_snoc, ← H.out, hb]
          have hbl : T[i].toNat < 256 := T[i].toNat_lt
          have HS := Lib.hid hst
          have HB := Lib.hid (step_any b0 y T[i].toNat w hB hy hbl)
          have hy2 := Lib.hid (crcByte_lt hy hbl)
          clear hst hb H
          go_wp2_with fail
          refine HB.out.mono ?_
          rintro e w1 ⟨rfl, rfl⟩
          go_wp2
          go_roundg (T.size - (i + 1))
          · exact ⟨i + 1, _, by omega, rfl, by first | rfl | go_num, rfl, hy2.out, Lib.hid HS.out.symm, rfl⟩
          · omega
        · have hcz : ¬ (i : Int) < (T.size : Int) := by omega
          have h8 : i = T.size := by omega
          have HE := Lib.hid (show y = crcFeed x (bytesOf T) from by rw [H.out, h8, ← hlen, List.take_length])
          go_wp2
          go_roundg 0
          · exact ⟨1, y, by omega, rfl, by first | rfl | go_num, rfl, Lib.hid ⟨fun h => by omega, fun _ => HE.out⟩, rfl⟩
          · omega
    · have H1 := Lib.hid (H.out.2 rfl)
      go_wp2
      go_returns
      exact ⟨by rw [← H1.out]; rfl, rfl⟩
theorem begin_any (w : World) : Calls Tryd.prog 118 #[] w fun e w' => e = .returned (.int .u32 (4294967295 : Nat)) ∧ w = w' := by
  go_enter Tryd.func118, Tryd.ntmps118
  go_wp2
  go_returns
  exact ⟨rfl, rfl⟩
theorem xor_all (n : Nat) (h : n < 4294967296) : 4294967295 ^^^ n = 4294967295 - n := by
  have e1 : 4294967295 - n = 2 ^ 32 - (n + 1) := by omega
  have e2 : 4294967295 = 2 ^ 32 - 1 := by omega
  rw [e1]
  apply Nat.eq_of_testBit_eq
  intro i
  rw [Nat.testBit_xor, Nat.testBit_two_pow_sub_succ h, e2, Nat.testBit_two_pow_sub_one]
  by_cases hi : i < 32
  · simp [hi]
  · have : n.testBit i = false := Nat.testBit_lt_two_pow (Nat.lt_of_lt_of_le h (show 2 ^ 32 ≤ 2 ^ i from Nat.pow_le_pow_right (by omega) (by omega)))
    simp [hi, this]
theorem end_any (x : Nat) (w : World) (hx : x < 4294967296) : Calls Tryd.prog 116 #[.int .u32 (x : Nat)] w fun e w' => e = .returned (.int .u32 (4294967295 - x : Nat)) ∧ w = w' := by
  go_enter Tryd.func116, Tryd.ntmps116
  go_wp2
  go_returns
  refine ⟨?_, rfl⟩
  have hx2 := xor_u32 4294967295 x (by omega) hx
  rw [xor_all x hx] at hx2
  exact congrArg (fun z => Ending.returned (.int .u32 z)) hx2
set_option maxRecDepth 100000 in
set_option maxHeartbeats 1600000 in
theorem sumOf_any (T : ByteArray) (w : World) (hT : T.size ≤ 9223372036854775807) : Calls Tryd.prog 73 #[.string T] w fun e w' => e = .returned (.int .u32 (crcOf T : Nat)) ∧ Upd [] w w' := by
  have HO := Lib.hid (show crcOf T = 4294967295 - crcFeed 4294967295 (bytesOf T) from rfl)
  have hl := crcFeed_lt (bytesOf T) (s := 4294967295) (by omega) (bytesOf_lt T)
  have HF := Lib.hid (fun b0 sb w' hB hc => feed_any b0 sb 4294967295 T w' hB (by omega) hT hc)
  generalize crcFeed 4294967295 (bytesOf T) = x at *
  have HLL := Lib.hid (length_u32v tabL)
  have HTL := Lib.hid tabL_len
  go_enter Tryd.func73, Tryd.ntmps73
  go_wp2_with fail
  refine (made_any w).mono ?_
  rintro e w1 ⟨rfl, hU1⟩
  go_wp2_with (first | (refine wpList_storeBlk rfl 138 _ _ rfl w1.heap.size rfl (u32v tabL) rfl 138 (u32v (List.replicate 256 0)) (by rw [zeroTab]; exact Blk.new w1 _ _) (by rw [infoTab]; rfl) (by rw [HLL.out, HTL.out]; rfl) (u32v_one _) ?_; intro w2 hB2 hU2))
  have hU02 : Upd [] w w2 := (hU1.then (((Upd.refl [] w1).alloc (.cells (u32v (List.replicate 256 0)).toArray 138)))).trans (by rw [zeroTab] at hU2; exact hU2) (fun k hk => .inr (by have := hU1.size; simp at hk; omega))
  refine (begin_any w2).mono ?_
  rintro e w3 ⟨rfl, rfl⟩
  go_wp2_with fail
  have hS := Blk.new w2 [.string T] 9
  have hB4 := hB2.alloc (.cells #[.string T] 9)
  refine (HF.out w1.heap.size w2.heap.size _ hB4 (hS.cell 0 rfl)).mono ?_
  rintro e w4 ⟨rfl, rfl⟩
  go_wp2_with fail
  refine (end_any x _ hl).mono ?_
  rintro e w5 ⟨rfl, rfl⟩
  go_wp2
  go_returns
  exact ⟨by rw [HO.out]; rfl, hU02.alloc _⟩
end Go.Proofs.YtibmhadnfggmlaaDoor
