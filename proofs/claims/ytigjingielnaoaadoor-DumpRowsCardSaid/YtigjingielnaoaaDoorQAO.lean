/- Package strings: Join with a sign: its walk. -/
import Derived.Test.YtigjingielnaoaaDoorQAN
namespace Go.Proofs.YtigjingielnaoaaDoor
set_option linter.unusedVariables false
set_option linter.unusedSimpArgs false
set_option linter.unusedSectionVars false
open Go.RowKit
set_option linter.unusedVariables false

def totC (ps : List (List Nat)) : Nat := (ps.map List.length).sum
theorem totC_snoc (ps : List (List Nat)) (p : List Nat) : totC (ps ++ [p]) = totC ps + p.length := by simp [totC]
theorem totC_take (ps : List (List Nat)) (k : Nat) : totC (ps.take k) ≤ totC ps := by
  conv => rhs; rw [← List.take_append_drop k ps]
  unfold totC
  rw [List.map_append, List.sum_append_nat]
  omega
theorem joinC_tot (c : Nat) : ∀ ps : List (List Nat), (joinC c ps).length = totC ps + (ps.length - 1)
  | [] => rfl
  | [p] => by simp [joinC, totC]
  | p :: q :: r => by
    have ih := joinC_tot c (q :: r)
    rw [joinC, List.length_append, List.length_cons, ih]
    simp [totC]; omega
theorem isBldB : IsBldT 103 := ⟨by kernel_rfl, by decide⟩
set_option maxRecDepth 100000 in
set_option maxHeartbeats 3200000 in
theorem joinC_any (ps : List (List Nat)) (c : UInt8) (v : Value) (w : World) (h : TextsAt w v ps) (hps : ∀ p ∈ ps, ∀ x ∈ p, x < 256) (hn : ps.length ≤ 1000) (ht : totC ps ≤ 100000000) :
    Calls Tryd.prog 42 #[v, .string { data := #[c] }] w fun e w' => e = .returned (.string (strOf (joinC c.toNat ps))) ∧ Upd [] w w' := by
  obtain ⟨a, cap, rfl, hcap, h⟩ := h
  have H := Lib.hid h
  have HPS := Lib.hid hps
  clear h hps
  obtain ⟨n, hnn⟩ : ∃ n, ps.length = n := ⟨_, rfl⟩
  have hcb : c.toNat < 256 := c.toNat_lt
  rw [hnn] at hn hcap ⊢
  have HN := Lib.hid hnn
  have HTT := Lib.hid (totC_take ps)
  by_cases h0 : n = 0
  · have HE : Hid (strOf (joinC c.toNat ps) = .empty) := Lib.hid (by rw [List.eq_nil_of_length_eq_zero (hnn.trans h0)]; rfl)
    subst h0
    clear hnn
    go_enter Tryd.func42, Tryd.ntmps42
    go_wp2
    go_ret
    exact ⟨by rw [HE.out]; rfl, Upd.refl _ _⟩
  by_cases h1 : n = 1
  · have HE : Hid (joinC c.toNat ps = ps[0]'(by omega)) := Lib.hid (by
      match ps, hnn with
      | [p], _ => rfl
      | [], e => exact absurd e.symm h0
      | p :: q :: r, e => simp at e; omega)
    obtain ⟨b, off, rfl, hc⟩ := H.out 0 (by omega)
    rw [Nat.add_zero] at hc
    rw [← HE.out] at hc
    clear HE HN
    subst h1
    clear h0 H
    have HNN := Lib.hid hnn
    clear hnn
    go_enter Tryd.func42, Tryd.ntmps42
    go_wp2
    go_ret
    exact ⟨rfl, Upd.refl _ _⟩
  · obtain ⟨b, off, rfl, hc0⟩ := H.out 0 (by omega)
    have H2 : Hid (∀ i, (hi : i < ps.length) → w.cell? ⟨b, off + i, none⟩ = some (.string (strOf ps[i]))) := Lib.hid (fun i hi => by
      obtain ⟨b2, o2, e, h2⟩ := H.out i hi
      simp only [Option.some.injEq, Addr.mk.injEq, and_true] at e
      obtain ⟨rfl, rfl⟩ := e
      exact h2)
    have hq : ¬ (9223372036854775807 : Int) / ((n : Int) - 1) ≤ 1 := by
      have : (2 : Int) ≤ 9223372036854775807 / ((n : Int) - 1) := (Int.le_ediv_iff_mul_le (by omega)).2 (by omega)
      omega
    have h0z : ((n : Int) == 0) = false := by rw [beq_eq_false_iff_ne]; omega
    have h1z : ((n : Int) == 1) = false := by rw [beq_eq_false_iff_ne]; omega
    have hn1 : (0 : Int) ≤ (n : Int) - 1 := by omega
    have hn2 : (n : Int) - 1 ≤ 1000 := by omega
    have hn2b : (n : Int) ≤ 1000 := by omega
    have hpos : 1 < n := by omega
    have hposz : (1 : Int) ≤ (n : Int) := by omega
    have hcapz : (n : Int) ≤ (cap : Int) := by omega
    clear hnn h0 h1 H hc0
    go_enter Tryd.func42, Tryd.ntmps42
    go_wp2
    go_loopg [5, 41] n (fun gg s5 s41 wr => ∃ i, i ≤ n ∧ gg = n - i ∧ s41 = .int .i64 (i : Nat) ∧ ∃ m : Nat, s5 = .int .i64 (m : Nat) ∧ Hid (m + 1 = n + totC (ps.take i)) ∧ Hid (wr = w))
    case atStart => exact ⟨0, Nat.zero_le _, rfl, rfl, n - 1, by rw [show ((n - 1 : Nat) : Int) = (n : Int) - 1 by omega], Lib.hid (by simp [totC]; omega), Lib.hid rfl⟩
    case round =>
      obtain ⟨i, hin, rfl, rfl, m, rfl, HM, HW⟩ := hrel
      have hwr := HW.out.symm
      subst hwr
      clear HW
      have htk := HTT.out i
      have hml : m ≤ 200000000 := by have := HM.out; omega
      by_cases hc : i < n
      · have hcz : (i : Int) < (n : Int) := by omega
        have hil : i < ps.length := by rw [HN.out]; exact hc
        have hce := H2.out i hil
        have hsz : (strOf ps[i]).size = ps[i].length := size_strOf _
        have hM2 : Hid (m + (strOf ps[i]).size + 1 = n + totC (ps.take (i + 1))) := Lib.hid (by
          rw [List.take_succ_eq_append_getElem hil, totC_snoc, hsz, ← Nat.add_assoc, ← HM.out]; omega)
        have hle : (strOf ps[i]).size ≤ 100000000 := by
          have h1 := HTT.out (i + 1)
          rw [List.take_succ_eq_append_getElem hil, totC_snoc] at h1
          omega
        clear hsz
        generalize strOf ps[i] = S at *
        have hov : ¬ 9223372036854775807 - (m : Int) < (S.size : Int) := by omega
        go_wp2
        go_roundg (n - (i + 1))
        · exact ⟨i + 1, by omega, rfl, by first | rfl | go_num, m + S.size, by first | rfl | go_num, hM2, Lib.hid rfl⟩
        · omega
      · have hcz : ¬ (i : Int) < (n : Int) := by omega
        have hni : i = n := by omega
        subst hni
        have hm0 : 0 < m := by have := HM.out; omega
        have HGR := Lib.hid (growF_any isBldB w.heap.size w.heap.size m (w.alloc (.cells #[.pointer none, .slice none 0 0] 103)) (Nat.le_refl _) (heap_alloc_new w _) (by simp) (by omega) hm0)
        have hil0 : 0 < ps.length := by rw [HN.out]; omega
        have hce := H2.out 0 hil0
        rw [Nat.add_zero] at hce
        obtain ⟨S0, hS0⟩ : ∃ S, S = strOf ps[0] := ⟨_, rfl⟩
        rw [← hS0] at hce
        have hb0 : bytesOf S0 = joinC c.toNat (ps.take 1) := by
          rw [hS0, bytesOf_strOf _ (HPS.out _ (List.getElem_mem hil0)), List.take_succ_eq_append_getElem hil0]; rfl
        have hs0 : S0.size ≤ 100000000 := by
          have h1 := HTT.out 1
          rw [List.take_succ_eq_append_getElem hil0] at h1
          rw [hS0, size_strOf]
          simp [totC] at h1 ht
          omega
        have HWS := Lib.hid (fun (w9 : World) h9 h8 => writeString_any isBldB w.heap.size w.heap.size [] S0 w9 h9 (by simp; omega) h8)
        rw [List.nil_append, hb0] at HWS
        clear hS0 hb0 hs0 hil0 HM htk hml
        go_wp2_with fail
        refine HGR.out.mono ?_
        rintro e w1 ⟨rfl, hB1, hL1⟩
        have HB1 := Lib.hid hB1
        have HL1 := Lib.hid (((Below.refl w.heap.size w).alloc (Nat.le_refl _) (.cells #[.pointer none, .slice none 0 0] 103)).trans hL1)
        clear hB1 hL1 HGR
        have hbB := textCell_lt hce
        have hce1 := (HL1.out.cell (p := ⟨b, off, none⟩) (textCell_lt hce)).trans hce
        go_wp2_with fail
        refine (HWS.out _ HB1.out HL1.out.size).mono ?_
        rintro e w2 ⟨rfl, hB2, hL2⟩
        have HB2 := Lib.hid hB2
        have HL2 := Lib.hid (HL1.out.trans hL2)
        clear hB2 hL2 HB1 HL1 HWS hce hce1
        have hcapb : 1 < cap := by omega
        have hcapc : (1 : Int) ≤ (cap : Int) := by omega
        have hcapd : (cap == 1) = false := by rw [beq_eq_false_iff_ne]; omega
        have hcape : ¬ cap = 1 := by omega
        go_wp2
        go_loopg [65] (i - 1) (fun gg s65 wq => ∃ j, j ≤ i - 1 ∧ gg = i - 1 - j ∧ s65 = .int .i64 (j : Nat) ∧ Hid (Bld 103 w.heap.size w.heap.size (joinC c.toNat (ps.take (j + 1))) wq) ∧ Hid (Below w.heap.size w wq))
        case atStart => exact ⟨0, Nat.zero_le _, rfl, rfl, HB2, HL2⟩
        case round =>
          clear HB2 HL2
          obtain ⟨j, hjn, rfl, rfl, HB, HL⟩ := hrel
          by_cases hj : j < i - 1
          · have hjz : (j : Int) < ((i - 1 : Nat) : Int) := by omega
            have hjz2 : (j : Int) < (i : Int) - 1 := by omega
            have hil : j + 1 < ps.length := by rw [HN.out]; omega
            have hce := (HL.out.cell (p := ⟨b, off + (j + 1), none⟩) hbB).trans (H2.out (j + 1) hil)
            have hT : ps.take (j + 1 + 1) = ps.take (j + 1) ++ [ps[j + 1]] := List.take_succ_eq_append_getElem hil
            have hne : ps.take (j + 1) ≠ [] := by intro e; have := congrArg List.length e; rw [List.length_take, HN.out, List.length_nil] at this; omega
            have hJ : joinC c.toNat (ps.take (j + 1 + 1)) = joinC c.toNat (ps.take (j + 1)) ++ [c.toNat] ++ ps[j + 1] := by rw [hT, joinC_snoc _ _ _ hne, List.append_assoc]; rfl
            have hbj : bytesOf (strOf ps[j + 1]) = ps[j + 1] := bytesOf_strOf _ (HPS.out _ (List.getElem_mem hil))
            have hlen1 : (joinC c.toNat (ps.take (j + 1))).length ≤ 100001000 := by
              rw [joinC_tot]
              have := HTT.out (j + 1)
              rw [List.length_take]
              omega
            have hlen2 : (strOf ps[j + 1]).size ≤ 100000000 := by
              have h1 := HTT.out (j + 1 + 1)
              rw [hT, totC_snoc] at h1
              rw [size_strOf]; omega
            have hbc : bytesOf ({ data := #[c] } : ByteArray) = [c.toNat] := rfl
            have HW1 := Lib.hid (fun (w9 : World) h9 h8 => writeString_any isBldB w.heap.size w.heap.size (joinC c.toNat (ps.take (j + 1))) ({ data := #[c] } : ByteArray) w9 h9 (by show _ + 1 ≤ _; omega) h8)
            have HW2 := Lib.hid (fun (w9 : World) h9 h8 => writeString_any isBldB w.heap.size w.heap.size (joinC c.toNat (ps.take (j + 1)) ++ [c.toNat]) (strOf ps[j + 1]) w9 h9 (by rw [List.length_append]; simp; omega) h8)
            rw [hbc] at HW1
            rw [hbj, ← hJ] at HW2
            clear hJ hbj hlen1 hlen2 hT hne hbc
            generalize strOf ps[j + 1] = S at *
            rw [show off + (j + 1) = off + 1 + j by omega] at hce
            have HCE := Lib.hid hce
            go_wp2_with fail
            refine (HW1.out _ HB.out (by have := HL.out.size; omega)).mono ?_
            rintro e w3 ⟨rfl, hB3, hL3⟩
            have HB3 := Lib.hid hB3
            have HL3 := Lib.hid (HL.out.trans hL3)
            clear hB3 hL3 HB HL hce
            go_wp2_with fail
            refine (HW2.out _ HB3.out (by have := HL3.out.size; omega)).mono ?_
            rintro e w4 ⟨rfl, hB4, hL4⟩
            have HB4 := Lib.hid hB4
            have HL4 := Lib.hid (HL3.out.trans hL4)
            clear hB4 hL4 HB3 HL3 HCE HW1 HW2
            go_wp2
            go_roundg (i - 1 - (j + 1))
            · exact ⟨j + 1, by omega, rfl, by first | rfl | go_num, HB4, HL4⟩
            · omega
          · have hjz : ¬ (j : Int) < ((i - 1 : Nat) : Int) := by omega
            have hjz2 : ¬ (j : Int) < (i : Int) - 1 := by omega
            have hji : j + 1 = i := by omega
            have HT : Hid (ps.take (j + 1) = ps) := Lib.hid (List.take_of_length_le (by rw [HN.out]; omega))
            rw [HT.out] at HB
            have HK := Lib.hid (bString_any w.heap.size w.heap.size (joinC c.toNat ps) wr HB.out (by intro e; have := congrArg List.length e; rw [joinC_tot, HN.out] at this; simp at this; omega) (joinC_lt c.toNat hcb ps HPS.out))
            go_wp2_with fail
            refine HK.out.mono ?_
            rintro e w5 ⟨rfl, hL5⟩
            go_wp2
            go_ret
            refine ⟨rfl, Upd.of_below ?_⟩
            exact HL.out.trans hL5
end Go.Proofs.YtigjingielnaoaaDoor
namespace Go.Proofs.YtigjingielnaoaaDoor
set_option linter.unusedVariables false
set_option linter.unusedSimpArgs false
set_option linter.unusedSectionVars false
open Go.RowKit
set_option linter.unusedVariables false
set_option linter.unusedSimpArgs false

theorem and15 (m : Nat) (h : m < 4294967296) : bits .and .u32 (m : Int) 15 = ((m % 16 : Nat) : Int) := by
  show IntKind.u32.wrap ((BitVec.ofInt 32 (m : Int) &&& BitVec.ofInt 32 15).toNat : Int) = _
  rw [BitVec.toNat_and, ofInt_nat 32 m (by omega), show (BitVec.ofInt 32 15).toNat = 2 ^ 4 - 1 from rfl, Nat.and_two_pow_sub_one_eq_mod]
  show ((m % 16 : Nat) : Int) % 4294967296 = _
  omega
/-- What stands in the buffer behind i rounds: zeros, then the last i digits. -/
def hexQ (n k i : Nat) : List Nat := List.replicate (k - i) 0 ++ hexP n i
theorem hexQ_len (n k i : Nat) (h : i ≤ k) : (hexQ n k i).length = k := by unfold hexQ; rw [List.length_append, hexP_len, List.length_replicate]; omega
theorem hexQ_step (n k i : Nat) (h : i < k) : (hexQ n k i).set (k - 1 - i) (hexd (n / 16 ^ i % 16)) = hexQ n k (i + 1) := by
  unfold hexQ
  rw [hexP_cons, show k - i = (k - (i + 1)) + 1 by omega, List.replicate_succ', List.append_assoc, List.set_append_right _ _ (by simp; omega)]
  simp
  rw [show k - 1 - i - (k - (i + 1)) = 0 by omega]
  rfl
set_option maxRecDepth 100000 in
set_option maxHeartbeats 1600000 in
theorem dhex_any (n k : Nat) (w : World) (hn : n < 4294967296) (hk : k ≤ 20) : Calls Tryd.prog 34 #[.int .u32 (n : Nat), .int .i64 (k : Nat)] w fun e w' => e = .returned (.string (strOf (hexP n k))) ∧ Upd [] w w' := by
  have hmk := fun w => run_make_row' (P := Tryd.prog) 85 5 (.int .u8 0) 1 Tryd.underlying85 infoByte rfl .i64 .i64 k (by omega) (by omega) (w := w)
  go_enter Tryd.func34, Tryd.ntmps34
  go_wp2
  have hB0 : Blk (w.alloc (.cells (madeCells #[.int .u8 0] k) 5)) w.heap.size (u8s (hexQ n k 0)) 5 := by
    have := heap_alloc_new w (.cells (madeCells #[.int .u8 0] k) 5)
    unfold Blk
    rw [this]
    congr 2
    apply Array.ext
    · simp [madeCells, u8s, hexQ, hexP]
    · intro j h1 h2
      simp [madeCells, u8s, hexQ, hexP, Nat.mod_one]
  have hU0 : Upd [] w (w.alloc (.cells (madeCells #[.int .u8 0] k) 5)) := (Upd.refl [] w).alloc _
  generalize w.alloc (.cells (madeCells #[.int .u8 0] k) 5) = w0 at *
  obtain ⟨b0, hb0⟩ : ∃ b0, w.heap.size = b0 := ⟨_, rfl⟩
  rw [hb0] at hB0 ⊢
  have HB := Lib.hid (show w.heap.size ≤ b0 by omega)
  have HB0 := Lib.hid hB0
  have HU0 := Lib.hid hU0
  clear hb0 hmk hB0 hU0
  go_loopg [0, 11] k (fun g s0 s11 wr => ∃ i, i ≤ k ∧ g = k - i ∧ s11 = .int .i64 (i : Nat) ∧ ∃ m : Nat, s0 = .int .u32 (m : Nat) ∧ Hid (m = n / 16 ^ i) ∧ m ≤ n ∧ Hid (Blk wr b0 (u8s (hexQ n k i)) 5) ∧ Hid (Upd [] w wr))
  case atStart => exact ⟨0, by omega, rfl, rfl, n, rfl, Lib.hid (by simp), Nat.le_refl _, HB0, HU0⟩
  case round =>
    obtain ⟨i, hi, rfl, rfl, m, rfl, HM, hmn, hB, hU⟩ := hrel
    clear HB0 HU0
    by_cases hc9 : i < k
    · have hcz : (i : Int) < (k : Int) := by omega
      have HST := Lib.hid (hexQ_step n k i hc9)
      rw [← HM.out] at HST
      have hln := hexQ_len n k i hi
      have hix : k - 1 - i < k := by omega
      have hcast : (k : Int) - 1 - (i : Int) = ((k - 1 - i : Nat) : Int) := by omega
      have hj0 : (0 : Int) ≤ (k : Int) - 1 - (i : Int) := by omega
      have hj1 : (k : Int) - 1 - (i : Int) < (k : Int) := by omega
      have hjn : ((k : Int) - 1 - (i : Int)).toNat = k - 1 - i := by omega
      obtain ⟨u, hu⟩ : ∃ u, (u8s (hexQ n k i))[k - 1 - i]? = some u := ⟨_, List.getElem?_eq_getElem (by rw [u8s, List.length_map, hln]; exact hix)⟩
      have c1 := hB.out.cell (k - 1 - i) hu
      clear hu
      have f1 := hB.out.frz (k - 1 - i)
      have hd16 : m % 16 < 16 := Nat.mod_lt _ (by decide)
      have hand : bits .and .u32 (m : Int) 15 = ((m % 16 : Nat) : Int) := and15 m (by omega)
      have hsz : ({ data := #[48, 49, 50, 51, 52, 53, 54, 55, 56, 57, 97, 98, 99, 100, 101, 102] } : ByteArray).size = 16 := rfl
      obtain ⟨dd, hdd⟩ : ∃ dd, m % 16 = dd := ⟨_, rfl⟩
      rw [hdd] at HST hand hd16
      have hgt := hexes_get dd hd16
      unfold hexes at hgt
      have HDD := Lib.hid hdd
      clear hdd
      have HM2 : Hid (m / 16 = n / 16 ^ (i + 1)) := Lib.hid (by rw [HM.out, Nat.div_div_eq_div_mul, Nat.pow_succ])
      have hm16 : m / 16 ≤ n := by omega
      clear hln hcast
      go_wp2
      go_roundg (k - (i + 1))
      · exact ⟨i + 1, by omega, rfl, by first | rfl | go_num, m / 16, by first | rfl | go_num, HM2, hm16, Lib.hid (by rw [← HST.out, ← u8s_set2]; exact hB.out.set _ _), Lib.hid (hU.out.setCell (.inr HB.out) _)⟩
      · omega
    · have hcz : ¬ (i : Int) < (k : Int) := by omega
      have h9 : i = k := by omega
      subst h9
      have hB2 := hB.out
      unfold hexQ at hB2
      rw [Nat.sub_self, List.replicate_zero, List.nil_append] at hB2
      have hcv2 := hB2.conv (P := Tryd.prog) (c := i) (hexP_len i n) Tryd.underlying85 Tryd.underlying5 Tryd.underlying9
      clear hB2
      go_wp2
      go_ret
      exact ⟨rfl, hU.out⟩
set_option maxRecDepth 100000 in
set_option maxHeartbeats 3200000 in
theorem dnumber_any (S : ByteArray) (base : Nat) (w : World) (hs : S.size ≤ 9223372036854775807) (hb : base ≤ 16) : Calls Tryd.prog 27 #[.string S, .int .i64 (base : Nat)] w fun e w' => e = .returned (.int .i64 (numB base (bytesOf S) : Nat)) ∧ Upd [] w w' := by
  obtain ⟨m, hm⟩ : ∃ m, m = min S.size 10 := ⟨_, rfl⟩
  have e1 : min (S.size : Int) 10 = (m : Int) := by omega
  have HL : Hid (m ≤ S.size ∧ m ≤ 10) := Lib.hid (by omega)
  have HN : Hid (numB base (bytesOf S) = foldB base ((bytesOf S).take m)) := Lib.hid (by
    unfold numB
    rw [hm]
    by_cases h : S.size ≤ 10
    · rw [Nat.min_eq_left h, List.take_of_length_le (by rw [length_bytesOf]; exact h), List.take_of_length_le (by rw [length_bytesOf]; omega)]; rfl
    · rw [Nat.min_eq_right (by omega)]; rfl)
  have HI := Lib.hid (fun c w => indexB_any hexes c w)
  unfold hexes at HI
  clear hm
  go_enter Tryd.func27, Tryd.ntmps27
  go_wp2
  go_loopg [4, 9] m (fun gg s4 s9 wr => ∃ i n, i ≤ m ∧ gg = m - i ∧ s9 = .int .i64 (i : Nat) ∧ s4 = .int .i64 (n : Nat) ∧ Hid (n = foldB base ((bytesOf S).take i)) ∧ n < 1099511627776 ∧ Hid (Upd [] w wr))
  case atStart => exact ⟨0, 0, Nat.zero_le _, rfl, rfl, rfl, Lib.hid rfl, by omega, Lib.hid (Upd.refl _ _)⟩
  case round =>
    obtain ⟨i, n, hin, rfl, rfl, rfl, HM, hn, HU⟩ := hrel
    by_cases hc : i < m
    · have hcz : (i : Int) < (m : Int) := by omega
      have hl := HL.out
      have hci : i < S.size := by omega
      have hil : i < (bytesOf S).length := by rw [length_bytesOf]; exact hci
      have HG : foldB base ((bytesOf S).take (i + 1)) = n * base + hexIx S[i].toNat := by
        rw [List.take_succ_eq_append_getElem hil, foldB_snoc, ← HM.out, bytesOf_get S i hci]
      have hlt := foldB_lt2 base hb ((bytesOf S).take (i + 1)) (by rw [List.length_take]; omega)
      have hbl : S[i].toNat < 256 := S[i].toNat_lt
      have hIx := HI.out S[i] wr
      have hix : ((hexIx S[i].toNat : Nat) : Int) = max 0 (Lib.indexByte hexes.data.toList S[i]) := by
        unfold hexIx
        rw [UInt8.ofNat_toNat]
        omega
      have hd := hexIx_lt S[i].toNat
      unfold hexes at hix
      generalize hexIx S[i].toNat = d at *
      generalize Lib.indexByte ({ data := #[48, 49, 50, 51, 52, 53, 54, 55, 56, 57, 97, 98, 99, 100, 101, 102] } : ByteArray).data.toList S[i] = q at *
      have HIX := Lib.hid hIx
      have hq : max 0 q = (d : Int) := hix.symm
      have hw1 : wrap64 (wrap64 ((n : Int) * (base : Int)) + (d : Int)) = ((n * base + d : Nat) : Int) := by
        have hnb : n * base < 1099511627776 := by omega
        have e : (n : Int) * (base : Int) = ((n * base : Nat) : Int) := by simp
        rw [e]
        generalize n * base = nb at *
        rw [IntWalk.wrap64_in ((nb : Nat) : Int) (by omega), IntWalk.wrap64_in _ (by omega)]
        simp
      have HG2 := Lib.hid HG
      rw [HG] at hlt
      generalize n * base + d = n2 at *
      clear hix hIx HM hil hl HG
      go_wp2_with fail
      refine HIX.out.mono ?_
      rintro e w1 ⟨rfl, rfl⟩
      go_wp2
      go_roundg (m - (i + 1))
      · exact ⟨i + 1, n2, by omega, rfl, by first | rfl | go_num, by first | rfl | rw [hw1] | go_num, Lib.hid HG2.out.symm, hlt, HU⟩
      · omega
    · have hcz : ¬ (i : Int) < (m : Int) := by omega
      have hix : i = m := by omega
      subst hix
      go_wp2
      go_ret
      exact ⟨by rw [HN.out, ← HM.out]; rfl, HU.out⟩
theorem dline_any (ps : List (List Nat)) (v : Value) (w : World) (h : TextsAt w v ps) (hps : ∀ p ∈ ps, ∀ x ∈ p, x < 256) (hn : ps.length ≤ 1000) (ht : totC ps ≤ 100000000) :
    Calls Tryd.prog 32 #[v] w fun e w' => e = .returned (.string (strOf (joinC 32 ps))) ∧ Upd [] w w' := by
  have HJ := Lib.hid (joinC_any ps 32 v w h hps hn ht)
  obtain ⟨a, cap, rfl, _⟩ := h
  go_enter Tryd.func32, Tryd.ntmps32
  go_wp2_with fail
  refine HJ.out.mono ?_
  rintro e w1 ⟨rfl, hu⟩
  go_wp2
  go_ret
  exact ⟨rfl, hu⟩
end Go.Proofs.YtigjingielnaoaaDoor
