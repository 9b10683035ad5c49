/- Package swingleref02: walks. -/
import Derived.Test.YtibmhadnfggmlaaSumP
namespace Go.Proofs.Ytibmhadnfggmlaa
open Go.RowKit
set_option linter.unusedVariables false

set_option maxRecDepth 100000 in
set_option maxHeartbeats 1600000 in
theorem rbit_any (s b : Nat) (w : World) (hs : s < 4294967296) (hb : b < 2) : Calls Try.prog 68 #[.int .u32 (s : Nat), .int .u32 (b : Nat)] w fun e w' => e = .returned (.int .u32 (refBit s b : Nat)) ∧ w = w' := by
  have hx := xor_u32 (s / 2) 3988292384 (by omega) (by omega)
  have e1 : ((s / 2 : Nat) : Int) = (s : Int) / 2 := by omega
  rw [e1] at hx
  have HX := Lib.hid hx
  clear hx e1
  by_cases h : (s + b) % 2 = 1
  · have HB := Lib.hid (show refBit s b = (s / 2) ^^^ 3988292384 from by unfold refBit; rw [if_pos h])
    have t1 : (((s : Int) + (b : Int)) % 4294967296 % 2 == 1) = true := by simp; omega
    clear h
    go_enter Try.func68, Try.ntmps68
    go_wp2
    go_returns
    exact ⟨by rw [HB.out]; exact congrArg (fun z => Ending.returned (.int .u32 z)) HX.out, rfl⟩
  · have HB := Lib.hid (show refBit s b = s / 2 from by unfold refBit; rw [if_neg h])
    have t1 : (((s : Int) + (b : Int)) % 4294967296 % 2 == 1) = false := by simp; omega
    clear h
    go_enter Try.func68, Try.ntmps68
    go_wp2
    go_returns
    exact ⟨by rw [HB.out]; exact congrArg (fun z => Ending.returned (.int .u32 z)) (show (s : Int) / 2 = ((s / 2 : Nat) : Int) by omega), rfl⟩

theorem refBit_lt {s b : Nat} (h : s < 4294967296) : refBit s b < 4294967296 := by
  unfold refBit
  split
  · exact Nat.xor_lt_two_pow (n := 32) (by omega) (by omega)
  · omega
set_option maxRecDepth 100000 in
set_option maxHeartbeats 1600000 in
theorem rbyte_any (s b : Nat) (w : World) (hs : s < 4294967296) (hb : b < 256) : Calls Try.prog 61 #[.int .u32 (s : Nat), .int .u8 (b : Nat)] w fun e w' => e = .returned (.int .u32 (crcByte s b : Nat)) ∧ w = w' := by
  have H0 := Lib.hid (show crcByte s b = refN 8 s b from (refN_eq 8 s b hb).symm)
  generalize crcByte s b = R at *
  go_enter Try.func61, Try.ntmps61
  go_wp2
  go_loopg [0, 5, 6] 8 (fun g s0 s5 s6 wr => ∃ i x n, i ≤ 8 ∧ g = 8 - i ∧ s6 = .int .i64 (i : Nat) ∧ s0 = .int .u32 (x : Nat) ∧ s5 = .int .u32 (n : Nat) ∧ x < 4294967296 ∧ n < 256 ∧ Hid (R = refN (8 - i) x n) ∧ w = wr)
  case atStart => exact ⟨0, s, b, by omega, rfl, rfl, rfl, rfl, hs, hb, H0, rfl⟩
  case round =>
    obtain ⟨i, x, n, hi, rfl, rfl, rfl, rfl, hx, hn, H, rfl⟩ := hrel
    by_cases hc : i < 8
    · have hcz : (i : Int) < 8 := by omega
      have H1 := Lib.hid (show R = refN (8 - (i + 1)) (refBit x (n % 2)) (n / 2) from by rw [H.out, show 8 - i = (8 - (i + 1)) + 1 by omega]; rfl)
      obtain ⟨q, hq⟩ : ∃ q, q = n % 2 := ⟨_, rfl⟩
      obtain ⟨m, hm⟩ : ∃ m, m = n / 2 := ⟨_, rfl⟩
      rw [← hq, ← hm] at H1
      have z1 : (n : Int) % 2 = (q : Int) := by omega
      have z2 : (n : Int) / 2 = (m : Int) := by omega
      have hq2 : q < 2 := by omega
      have hm2 : m < 256 := by omega
      have HB := Lib.hid (rbit_any x q w hx hq2)
      have hy := Lib.hid (refBit_lt (b := q) hx)
      clear hq hm H
      generalize refBit x q = y at *
      go_wp2_with fail
      refine HB.out.mono ?_
      rintro e w1 ⟨rfl, rfl⟩
      go_wp2
      go_roundg (8 - (i + 1))
      · exact ⟨i + 1, y, m, by omega, rfl, by first | rfl | go_num, rfl, rfl, hy.out, hm2, H1, rfl⟩
      · omega
    · have hcz : ¬ (i : Int) < 8 := by omega
      have h8 : i = 8 := by omega
      subst h8
      go_wp2
      go_returns
      exact ⟨by rw [H.out]; rfl, rfl⟩
set_option maxRecDepth 100000 in
set_option maxHeartbeats 1600000 in
theorem rfeed_any (s : Nat) (T : ByteArray) (w : World) (hs : s < 4294967296) (hT : T.size ≤ 9223372036854775807) : Calls Try.prog 50 #[.int .u32 (s : Nat), .string T] w fun e w' => e = .returned (.int .u32 (crcFeed s (bytesOf T) : Nat)) ∧ w = w' := by
  have hlen := length_bytesOf T
  go_enter Try.func50, Try.ntmps50
  go_wp2
  go_loopg [0, 5] T.size (fun g s0 s5 wr => ∃ i x, i ≤ T.size ∧ g = T.size - i ∧ s5 = .int .i64 (i : Nat) ∧ s0 = .int .u32 (x : Nat) ∧ x < 4294967296 ∧ Hid (x = crcFeed s ((bytesOf T).take i)) ∧ w = wr)
  case atStart => exact ⟨0, s, by omega, rfl, rfl, rfl, hs, Lib.hid rfl, rfl⟩
  case round =>
    obtain ⟨i, x, hi, rfl, rfl, rfl, hx, H, rfl⟩ := hrel
    by_cases hc : i < T.size
    · have hcz : (i : Int) < (T.size : Int) := by omega
      have hil : i < (bytesOf T).length := by omega
      have hb : (bytesOf T)[i] = T[i].toNat := bytesOf_get T i hc hil
      have hst : crcFeed s ((bytesOf T).take (i + 1)) = crcByte x T[i].toNat := by
        rw [List.take_succ_eq_append_getElem hil, crcFeed_snoc, ← H.out, hb]
      have hbl : T[i].toNat < 256 := T[i].toNat_lt
      have HS := Lib.hid hst
      have HB := Lib.hid (rbyte_any x T[i].toNat w hx hbl)
      have hy := Lib.hid (crcByte_lt hx hbl)
      clear hst hb H
      go_wp2_with fail
      refine HB.out.mono ?_
      rintro e w1 ⟨rfl, rfl⟩
      go_wp2
      go_roundg (T.size - (i + 1))
      · exact ⟨i + 1, _, by omega, rfl, by first | rfl | go_num, rfl, hy.out, Lib.hid HS.out.symm, rfl⟩
      · omega
    · have hcz : ¬ (i : Int) < (T.size : Int) := by omega
      have h8 : i = T.size := by omega
      go_wp2
      go_returns
      exact ⟨by rw [H.out, h8, ← hlen, List.take_length]; rfl, rfl⟩
theorem rof_crc (T : ByteArray) (w : World) (hT : T.size ≤ 9223372036854775807) : Calls Try.prog 37 #[.string T] w fun e w' => e = .returned (.int .u32 (crcOf T : Nat)) ∧ w = w' := by
  have HF := Lib.hid (rfeed_any 4294967295 T w (by omega) hT)
  have HO := Lib.hid (show crcOf T = 4294967295 - crcFeed 4294967295 (bytesOf T) from rfl)
  have hl := crcFeed_lt (bytesOf T) (s := 4294967295) (by omega) (bytesOf_lt T)
  generalize crcFeed 4294967295 (bytesOf T) = x at *
  go_enter Try.func37, Try.ntmps37
  go_wp2_with fail
  refine HF.out.mono ?_
  rintro e w1 ⟨rfl, rfl⟩
  go_wp2
  go_returns
  exact ⟨by rw [HO.out]; exact congrArg (fun z => Ending.returned (.int .u32 z)) (by omega), rfl⟩
end Go.Proofs.Ytibmhadnfggmlaa
