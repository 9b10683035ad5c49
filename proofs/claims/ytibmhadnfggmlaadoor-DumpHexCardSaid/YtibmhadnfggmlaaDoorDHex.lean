/- Package dump: hex, number, line: walks. -/
import Derived.Test.YtibmhadnfggmlaaDoorNNum
import Derived.Test.YtibmhadnfggmlaaDoorJoinV
namespace Go.Proofs.YtibmhadnfggmlaaDoor
set_option linter.unusedVariables false
set_option linter.unusedSimpArgs false
set_option linter.unusedSectionVars false
open Go.RowKit
set_option linter.unusedVariables false
set_option linter.unusedSimpArgs false

theorem and15 (m : Nat) (h : m < 4294967296) : bits .and .u32 (m : Int) 15 = ((m % 16 : Nat) : Int) := by
  show IntKind.u32.wrap ((BitVec.ofInt 32 (m : Int) &&& BitVec.ofInt 32 15).toNat : Int) = _
  rw [BitVec.toNat_and, ofInt_nat 32 m (by omega), show (BitVec.ofInt 32 15).toNat = 2 ^ 4 - 1 from rfl, Nat.and_two_pow_sub_one_eq_mod]
  show ((m % 16 : Nat) : Int) % 4294967296 = _
  omega
/-- What stands in the buffer behind i rounds: zeros, then the last i digits. -/
def hexQ (n k i : Nat) : List Nat := List.replicate (k - i) 0 ++ hexP n i
theorem hexQ_len (n k i : Nat) (h : i ≤ k) : (hexQ n k i).length = k := by unfold hexQ; rw [List.length_append, hexP_len, List.length_replicate]; omega
theorem hexQ_step (n k i : Nat) (h : i < k) : (hexQ n k i).set (k - 1 - i) (hexd (n / 16 ^ i % 16)) = hexQ n k (i + 1) := by
  unfold hexQ
  rw [hexP_cons, show k - i = (k - (i + 1)) + 1 by omega, List.replicate_succ', List.append_assoc, List.set_append_right _ _ (by simp; omega)]
  simp
  rw [show k - 1 - i - (k - (i + 1)) = 0 by omega]
  rfl
set_option maxRecDepth 100000 in
set_option maxHeartbeats 1600000 in
theorem dhex_any (n k : Nat) (w : World) (hn : n < 4294967296) (hk : k ≤ 20) : Calls Tryd.prog 60 #[.int .u32 (n : Nat), .int .i64 (k : Nat)] w fun e w' => e = .returned (.string (strOf (hexP n k))) ∧ Upd [] w w' := by
  have hmk := fun w => run_make_row' (P := Tryd.prog) 28 5 (.int .u8 0) 1 Tryd.underlying28 infoByte rfl .i64 .i64 k (by omega) (by omega) (w := w)
  go_enter Tryd.func60, Tryd.ntmps60
  go_wp2
  have hB0 : Blk (w.alloc (.cells (madeCells #[.int .u8 0] k) 5)) w.heap.size (u8s (hexQ n k 0)) 5 := by
    have := heap_alloc_new w (.cells (madeCells #[.int .u8 0] k) 5)
    unfold Blk
    rw [this]
    congr 2
    apply Array.ext
    · simp [madeCells, u8s, hexQ, hexP]
    · intro j h1 h2
      simp [madeCells, u8s, hexQ, hexP, Nat.mod_one]
  have hU0 : Upd [] w (w.alloc (.cells (madeCells #[.int .u8 0] k) 5)) := (Upd.refl [] w).alloc _
  generalize w.alloc (.cells (madeCells #[.int .u8 0] k) 5) = w0 at *
  obtain ⟨b0, hb0⟩ : ∃ b0, w.heap.size = b0 := ⟨_, rfl⟩
  rw [hb0] at hB0 ⊢
  have HB := Lib.hid (show w.heap.size ≤ b0 by omega)
  have HB0 := Lib.hid hB0
  have HU0 := Lib.hid hU0
  clear hb0 hmk hB0 hU0
  go_loopg [0, 11] k (fun g s0 s11 wr => ∃ i, i ≤ k ∧ g = k - i ∧ s11 = .int .i64 (i : Nat) ∧ ∃ m : Nat, s0 = .int .u32 (m : Nat) ∧ Hid (m = n / 16 ^ i) ∧ m ≤ n ∧ Hid (Blk wr b0 (u8s (hexQ n k i)) 5) ∧ Hid (Upd [] w wr))
  case atStart => exact ⟨0, by omega, rfl, rfl, n, rfl, Lib.hid (by simp), Nat.le_refl _, HB0, HU0⟩
  case round =>
    obtain ⟨i, hi, rfl, rfl, m, rfl, HM, hmn, hB, hU⟩ := hrel
    clear HB0 HU0
    by_cases hc9 : i < k
    · have hcz : (i : Int) < (k : Int) := by omega
      have HST := Lib.hid (hexQ_step n k i hc9)
      rw [← HM.out] at HST
      have hln := hexQ_len n k i hi
      have hix : k - 1 - i < k := by omega
      have hcast : (k : Int) - 1 - (i : Int) = ((k - 1 - i : Nat) : Int) := by omega
      have hj0 : (0 : Int) ≤ (k : Int) - 1 - (i : Int) := by omega
      have hj1 : (k : Int) - 1 - (i : Int) < (k : Int) := by omega
      have hjn : ((k : Int) - 1 - (i : Int)).toNat = k - 1 - i := by omega
      obtain ⟨u, hu⟩ : ∃ u, (u8s (hexQ n k i))[k - 1 - i]? = some u := ⟨_, List.getElem?_eq_getElem (by rw [u8s, List.length_map, hln]; exact hix)⟩
      have c1 := hB.out.cell (k - 1 - i) hu
      clear hu
      have f1 := hB.out.frz (k - 1 - i)
      have hd16 : m % 16 < 16 := Nat.mod_lt _ (by decide)
      have hand : bits .and .u32 (m : Int) 15 = ((m % 16 : Nat) : Int) := and15 m (by omega)
      have hsz : ({ data := #[48, 49, 50, 51, 52, 53, 54, 55, 56, 57, 97, 98, 99, 100, 101, 102] } : ByteArray).size = 16 := rfl
      obtain ⟨dd, hdd⟩ : ∃ dd, m % 16 = dd := ⟨_, rfl⟩
      rw [hdd] at HST hand hd16
      have hgt := hexes_get dd hd16
      unfold hexes at hgt
      have HDD := Lib.hid hdd
      clear hdd
      have HM2 : Hid (m / 16 = n / 16 ^ (i + 1)) := Lib.hid (by rw [HM.out, Nat.div_div_eq_div_mul, Nat.pow_succ])
      have hm16 : m / 16 ≤ n := by omega
      clear hln hcast
      go_wp2
      go_roundg (k - (i + 1))
      · exact ⟨i + 1, by omega, rfl, by first | rfl | go_num, m / 16, by first | rfl | go_num, HM2, hm16, Lib.hid (by rw [← HST.out, ← u8s_set2]; exact hB.out.set _ _), Lib.hid (hU.out.setCell (.inr HB.out) _)⟩
      · omega
    · have hcz : ¬ (i : Int) < (k : Int) := by omega
      have h9 : i = k := by omega
      subst h9
      have hB2 := hB.out
      unfold hexQ at hB2
      rw [Nat.sub_self, List.replicate_zero, List.nil_append] at hB2
      have hcv2 := hB2.conv (P := Tryd.prog) (c := i) (hexP_len i n) Tryd.underlying28 Tryd.underlying5 Tryd.underlying9
      clear hB2
      go_wp2
      go_ret
      exact ⟨rfl, hU.out⟩
set_option maxRecDepth 100000 in
set_option maxHeartbeats 3200000 in
theorem dnumber_any (S : ByteArray) (base : Nat) (w : World) (hs : S.size ≤ 9223372036854775807) (hb : base ≤ 16) : Calls Tryd.prog 57 #[.string S, .int .i64 (base : Nat)] w fun e w' => e = .returned (.int .i64 (numB base (bytesOf S) : Nat)) ∧ Upd [] w w' := by
  obtain ⟨m, hm⟩ : ∃ m, m = min S.size 10 := ⟨_, rfl⟩
  have e1 : min (S.size : Int) 10 = (m : Int) := by omega
  have HL : Hid (m ≤ S.size ∧ m ≤ 10) := Lib.hid (by omega)
  have HN : Hid (numB base (bytesOf S) = foldB base ((bytesOf S).take m)) := Lib.hid (by
    unfold numB
    rw [hm]
    by_cases h : S.size ≤ 10
    · rw [Nat.min_eq_left h, List.take_of_length_le (by rw [length_bytesOf]; exact h), List.take_of_length_le (by rw [length_bytesOf]; omega)]; rfl
    · rw [Nat.min_eq_right (by omega)]; rfl)
  have HI := Lib.hid (fun c w => indexB_any hexes c w)
  unfold hexes at HI
  clear hm
  go_enter Tryd.func57, Tryd.ntmps57
  go_wp2
  go_loopg [4, 9] m (fun gg s4 s9 wr => ∃ i n, i ≤ m ∧ gg = m - i ∧ s9 = .int .i64 (i : Nat) ∧ s4 = .int .i64 (n : Nat) ∧ Hid (n = foldB base ((bytesOf S).take i)) ∧ n < 1099511627776 ∧ Hid (Upd [] w wr))
  case atStart => exact ⟨0, 0, Nat.zero_le _, rfl, rfl, rfl, Lib.hid rfl, by omega, Lib.hid (Upd.refl _ _)⟩
  case round =>
    obtain ⟨i, n, hin, rfl, rfl, rfl, HM, hn, HU⟩ := hrel
    by_cases hc : i < m
    · have hcz : (i : Int) < (m : Int) := by omega
      have hl := HL.out
      have hci : i < S.size := by omega
      have hil : i < (bytesOf S).length := by rw [length_bytesOf]; exact hci
      have HG : foldB base ((bytesOf S).take (i + 1)) = n * base + hexIx S[i].toNat := by
        rw [List.take_succ_eq_append_getElem hil, foldB_snoc, ← HM.out, bytesOf_get S i hci]
      have hlt := foldB_lt2 base hb ((bytesOf S).take (i + 1)) (by rw [List.length_take]; omega)
      have hbl : S[i].toNat < 256 := S[i].toNat_lt
      have hIx := HI.out S[i] wr
      have hix : ((hexIx S[i].toNat : Nat) : Int) = max 0 (Lib.indexByte hexes.data.toList S[i]) := by
        unfold hexIx
        rw [UInt8.ofNat_toNat]
        omega
      have hd := hexIx_lt S[i].toNat
      unfold hexes at hix
      generalize hexIx S[i].toNat = d at *
      generalize Lib.indexByte ({ data := #[48, 49, 50, 51, 52, 53, 54, 55, 56, 57, 97, 98, 99, 100, 101, 102] } : ByteArray).data.toList S[i] = q at *
      have HIX := Lib.hid hIx
      have hq : max 0 q = (d : Int) := hix.symm
      have hw1 : wrap64 (wrap64 ((n : Int) * (base : Int)) + (d : Int)) = ((n * base + d : Nat) : Int) := by
        have hnb : n * base < 1099511627776 := by omega
        have e : (n : Int) * (base : Int) = ((n * base : Nat) : Int) := by simp
        rw [e]
        generalize n * base = nb at *
        rw [IntWalk.wrap64_in ((nb : Nat) : Int) (by omega), IntWalk.wrap64_in _ (by omega)]
        simp
      have HG2 := Lib.hid HG
      rw [HG] at hlt
      generalize n * base + d = n2 at *
      clear hix hIx HM hil hl HG
      go_wp2_with fail
      refine HIX.out.mono ?_
      rintro e w1 ⟨rfl, rfl⟩
      go_wp2
      go_roundg (m - (i + 1))
      · exact ⟨i + 1, n2, by omega, rfl, by first | rfl | go_num, by first | rfl | rw [hw1] | go_num, Lib.hid HG2.out.symm, hlt, HU⟩
      · omega
    · have hcz : ¬ (i : Int) < (m : Int) := by omega
      have hix : i = m := by omega
      subst hix
      go_wp2
      go_ret
      exact ⟨by rw [HN.out, ← HM.out]; rfl, HU.out⟩
theorem dline_any (ps : List (List Nat)) (v : Value) (w : World) (h : TextsAt w v ps) (hps : ∀ p ∈ ps, ∀ x ∈ p, x < 256) (hn : ps.length ≤ 1000) (ht : totC ps ≤ 100000000) :
    Calls Tryd.prog 61 #[v] w fun e w' => e = .returned (.string (strOf (joinC 32 ps))) ∧ Upd [] w w' := by
  have HJ := Lib.hid (joinC_any ps 32 v w h hps hn ht)
  obtain ⟨a, cap, rfl, _⟩ := h
  go_enter Tryd.func61, Tryd.ntmps61
  go_wp2_with fail
  refine HJ.out.mono ?_
  rintro e w1 ⟨rfl, hu⟩
  go_wp2
  go_ret
  exact ⟨rfl, hu⟩
end Go.Proofs.YtibmhadnfggmlaaDoor
