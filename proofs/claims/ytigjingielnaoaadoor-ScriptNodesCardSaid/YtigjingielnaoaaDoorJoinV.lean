/- Package strings: Join with a sign: its walk. -/
import Derived.Test.YtigjingielnaoaaDoorQAL
namespace Go.Proofs.YtigjingielnaoaaDoor
set_option linter.unusedVariables false
set_option linter.unusedSimpArgs false
set_option linter.unusedSectionVars false
open Go.RowKit
set_option linter.unusedVariables false

def totC (ps : List (List Nat)) : Nat := (ps.map List.length).sum
theorem totC_snoc (ps : List (List Nat)) (p : List Nat) : totC (ps ++ [p]) = totC ps + p.length := by simp [totC]
theorem totC_take (ps : List (List Nat)) (k : Nat) : totC (ps.take k) ≤ totC ps := by
  conv => rhs; rw [← List.take_append_drop k ps]
  unfold totC
  rw [List.map_append, List.sum_append_nat]
  omega
theorem joinC_tot (c : Nat) : ∀ ps : List (List Nat), (joinC c ps).length = totC ps + (ps.length - 1)
  | [] => rfl
  | [p] => by simp [joinC, totC]
  | p :: q :: r => by
    have ih := joinC_tot c (q :: r)
    rw [joinC, List.length_append, List.length_cons, ih]
    simp [totC]; omega
theorem isBldB : IsBldT 103 := ⟨by kernel_rfl, by decide⟩
set_option maxRecDepth 100000 in
set_option maxHeartbeats 3200000 in
theorem joinC_any (ps : List (List Nat)) (c : UInt8) (v : Value) (w : World) (h : TextsAt w v ps) (hps : ∀ p ∈ ps, ∀ x ∈ p, x < 256) (hn : ps.length ≤ 1000) (ht : totC ps ≤ 100000000) :
    Calls Tryd.prog 42 #[v, .string { data := #[c] }] w fun e w' => e = .returned (.string (strOf (joinC c.toNat ps))) ∧ Upd [] w w' := by
  obtain ⟨a, cap, rfl, hcap, h⟩ := h
  have H := Lib.hid h
  have HPS := Lib.hid hps
  clear h hps
  obtain ⟨n, hnn⟩ : ∃ n, ps.length = n := ⟨_, rfl⟩
  have hcb : c.toNat < 256 := c.toNat_lt
  rw [hnn] at hn hcap ⊢
  have HN := Lib.hid hnn
  have HTT := Lib.hid (totC_take ps)
  by_cases h0 : n = 0
  · have HE : Hid (strOf (joinC c.toNat ps) = .empty) := Lib.hid (by rw [List.eq_nil_of_length_eq_zero (hnn.trans h0)]; rfl)
    subst h0
    clear hnn
    go_enter Tryd.func42, Tryd.ntmps42
    go_wp2
    go_ret
    exact ⟨by rw [HE.out]; rfl, Upd.refl _ _⟩
  by_cases h1 : n = 1
  · have HE : Hid (joinC c.toNat ps = ps[0]'(by omega)) := Lib.hid (by
      match ps, hnn with
      | [p], _ => rfl
      | [], e => exact absurd e.symm h0
      | p :: q :: r, e => simp at e; omega)
    obtain ⟨b, off, rfl, hc⟩ := H.out 0 (by omega)
    rw [Nat.add_zero] at hc
    rw [← HE.out] at hc
    clear HE HN
    subst h1
    clear h0 H
    have HNN := Lib.hid hnn
    clear hnn
    go_enter Tryd.func42, Tryd.ntmps42
    go_wp2
    go_ret
    exact ⟨rfl, Upd.refl _ _⟩
  · obtain ⟨b, off, rfl, hc0⟩ := H.out 0 (by omega)
    have H2 : Hid (∀ i, (hi : i < ps.length) → w.cell? ⟨b, off + i, none⟩ = some (.string (strOf ps[i]))) := Lib.hid (fun i hi => by
      obtain ⟨b2, o2, e, h2⟩ := H.out i hi
      simp only [Option.some.injEq, Addr.mk.injEq, and_true] at e
      obtain ⟨rfl, rfl⟩ := e
      exact h2)
    have hq : ¬ (9223372036854775807 : Int) / ((n : Int) - 1) ≤ 1 := by
      have : (2 : Int) ≤ 9223372036854775807 / ((n : Int) - 1) := (Int.le_ediv_iff_mul_le (by omega)).2 (by omega)
      omega
    have h0z : ((n : Int) == 0) = false := by rw [beq_eq_false_iff_ne]; omega
    have h1z : ((n : Int) == 1) = false := by rw [beq_eq_false_iff_ne]; omega
    have hn1 : (0 : Int) ≤ (n : Int) - 1 := by omega
    have hn2 : (n : Int) - 1 ≤ 1000 := by omega
    have hn2b : (n : Int) ≤ 1000 := by omega
    have hpos : 1 < n := by omega
    have hposz : (1 : Int) ≤ (n : Int) := by omega
    have hcapz : (n : Int) ≤ (cap : Int) := by omega
    clear hnn h0 h1 H hc0
    go_enter Tryd.func42, Tryd.ntmps42
    go_wp2
    go_loopg [5, 41] n (fun gg s5 s41 wr => ∃ i, i ≤ n ∧ gg = n - i ∧ s41 = .int .i64 (i : Nat) ∧ ∃ m : Nat, s5 = .int .i64 (m : Nat) ∧ Hid (m + 1 = n + totC (ps.take i)) ∧ Hid (wr = w))
    case atStart => exact ⟨0, Nat.zero_le _, rfl, rfl, n - 1, by rw [show ((n - 1 : Nat) : Int) = (n : Int) - 1 by omega], Lib.hid (by simp [totC]; omega), Lib.hid rfl⟩
    case round =>
      obtain ⟨i, hin, rfl, rfl, m, rfl, HM, HW⟩ := hrel
      have hwr := HW.out.symm
      subst hwr
      clear HW
      have htk := HTT.out i
      have hml : m ≤ 200000000 := by have := HM.out; omega
      by_cases hc : i < n
      · have hcz : (i : Int) < (n : Int) := by omega
        have hil : i < ps.length := by rw [HN.out]; exact hc
        have hce := H2.out i hil
        have hsz : (strOf ps[i]).size = ps[i].length := size_strOf _
        have hM2 : Hid (m + (strOf ps[i]).size + 1 = n + totC (ps.take (i + 1))) := Lib.hid (by
          rw [List.take_succ_eq_append_getElem hil, totC_snoc, hsz, ← Nat.add_assoc, ← HM.out]; omega)
        have hle : (strOf ps[i]).size ≤ 100000000 := by
          have h1 := HTT.out (i + 1)
          rw [List.take_succ_eq_append_getElem hil, totC_snoc] at h1
          omega
        clear hsz
        generalize strOf ps[i] = S at *
        have hov : ¬ 9223372036854775807 - (m : Int) < (S.size : Int) := by omega
        go_wp2
        go_roundg (n - (i + 1))
        · exact ⟨i + 1, by omega, rfl, by first | rfl | go_num, m + S.size, by first | rfl | go_num, hM2, Lib.hid rfl⟩
        · omega
      · have hcz : ¬ (i : Int) < (n : Int) := by omega
        have hni : i = n := by omega
        subst hni
        have hm0 : 0 < m := by have := HM.out; omega
        have HGR := Lib.hid (growF_any isBldB w.heap.size w.heap.size m (w.alloc (.cells #[.pointer none, .slice none 0 0] 103)) (Nat.le_refl _) (heap_alloc_new w _) (by simp) (by omega) hm0)
        have hil0 : 0 < ps.length := by rw [HN.out]; omega
        have hce := H2.out 0 hil0
        rw [Nat.add_zero] at hce
        obtain ⟨S0, hS0⟩ : ∃ S, S = strOf ps[0] := ⟨_, rfl⟩
        rw [← hS0] at hce
        have hb0 : bytesOf S0 = joinC c.toNat (ps.take 1) := by
          rw [hS0, bytesOf_strOf _ (HPS.out _ (List.getElem_mem hil0)), List.take_succ_eq_append_getElem hil0]; rfl
        have hs0 : S0.size ≤ 100000000 := by
          have h1 := HTT.out 1
          rw [List.take_succ_eq_append_getElem hil0] at h1
          rw [hS0, size_strOf]
          simp [totC] at h1 ht
          omega
        have HWS := Lib.hid (fun (w9 : World) h9 h8 => writeString_any isBldB w.heap.size w.heap.size [] S0 w9 h9 (by simp; omega) h8)
        rw [List.nil_append, hb0] at HWS
        clear hS0 hb0 hs0 hil0 HM htk hml
        go_wp2_with fail
        refine HGR.out.mono ?_
        rintro e w1 ⟨rfl, hB1, hL1⟩
        have HB1 := Lib.hid hB1
        have HL1 := Lib.hid (((Below.refl w.heap.size w).alloc (Nat.le_refl _) (.cells #[.pointer none, .slice none 0 0] 103)).trans hL1)
        clear hB1 hL1 HGR
        have hbB := textCell_lt hce
        have hce1 := (HL1.out.cell (p := ⟨b, off, none⟩) (textCell_lt hce)).trans hce
        go_wp2_with fail
        refine (HWS.out _ HB1.out HL1.out.size).mono ?_
        rintro e w2 ⟨rfl, hB2, hL2⟩
        have HB2 := Lib.hid hB2
        have HL2 := Lib.hid (HL1.out.trans hL2)
        clear hB2 hL2 HB1 HL1 HWS hce hce1
        have hcapb : 1 < cap := by omega
        have hcapc : (1 : Int) ≤ (cap : Int) := by omega
        have hcapd : (cap == 1) = false := by rw [beq_eq_false_iff_ne]; omega
        have hcape : ¬ cap = 1 := by omega
        go_wp2
        go_loopg [65] (i - 1) (fun gg s65 wq => ∃ j, j ≤ i - 1 ∧ gg = i - 1 - j ∧ s65 = .int .i64 (j : Nat) ∧ Hid (Bld 103 w.heap.size w.heap.size (joinC c.toNat (ps.take (j + 1))) wq) ∧ Hid (Below w.heap.size w wq))
        case atStart => exact ⟨0, Nat.zero_le _, rfl, rfl, HB2, HL2⟩
        case round =>
          clear HB2 HL2
          obtain ⟨j, hjn, rfl, rfl, HB, HL⟩ := hrel
          by_cases hj : j < i - 1
          · have hjz : (j : Int) < ((i - 1 : Nat) : Int) := by omega
            have hjz2 : (j : Int) < (i : Int) - 1 := by omega
            have hil : j + 1 < ps.length := by rw [HN.out]; omega
            have hce := (HL.out.cell (p := ⟨b, off + (j + 1), none⟩) hbB).trans (H2.out (j + 1) hil)
            have hT : ps.take (j + 1 + 1) = ps.take (j + 1) ++ [ps[j + 1]] := List.take_succ_eq_append_getElem hil
            have hne : ps.take (j + 1) ≠ [] := by intro e; have := congrArg List.length e; rw [List.length_take, HN.out, List.length_nil] at this; omega
            have hJ : joinC c.toNat (ps.take (j + 1 + 1)) = joinC c.toNat (ps.take (j + 1)) ++ [c.toNat] ++ ps[j + 1] := by rw [hT, joinC_snoc _ _ _ hne, List.append_assoc]; rfl
            have hbj : bytesOf (strOf ps[j + 1]) = ps[j + 1] := bytesOf_strOf _ (HPS.out _ (List.getElem_mem hil))
            have hlen1 : (joinC c.toNat (ps.take (j + 1))).length ≤ 100001000 := by
              rw [joinC_tot]
              have := HTT.out (j + 1)
              rw [List.length_take]
              omega
            have hlen2 : (strOf ps[j + 1]).size ≤ 100000000 := by
              have h1 := HTT.out (j + 1 + 1)
              rw [hT, totC_snoc] at h1
              rw [size_strOf]; omega
            have hbc : bytesOf ({ data := #[c] } : ByteArray) = [c.toNat] := rfl
            have HW1 := Lib.hid (fun (w9 : World) h9 h8 => writeString_any isBldB w.heap.size w.heap.size (joinC c.toNat (ps.take (j + 1))) ({ data := #[c] } : ByteArray) w9 h9 (by show _ + 1 ≤ _; omega) h8)
            have HW2 := Lib.hid (fun (w9 : World) h9 h8 => writeString_any isBldB w.heap.size w.heap.size (joinC c.toNat (ps.take (j + 1)) ++ [c.toNat]) (strOf ps[j + 1]) w9 h9 (by rw [List.length_append]; simp; omega) h8)
            rw [hbc] at HW1
            rw [hbj, ← hJ] at HW2
            clear hJ hbj hlen1 hlen2 hT hne hbc
            generalize strOf ps[j + 1] = S at *
            rw [show off + (j + 1) = off + 1 + j by omega] at hce
            have HCE := Lib.hid hce
            go_wp2_with fail
            refine (HW1.out _ HB.out (by have := HL.out.size; omega)).mono ?_
            rintro e w3 ⟨rfl, hB3, hL3⟩
            have HB3 := Lib.hid hB3
            have HL3 := Lib.hid (HL.out.trans hL3)
            clear hB3 hL3 HB HL hce
            go_wp2_with fail
            refine (HW2.out _ HB3.out (by have := HL3.out.size; omega)).mono ?_
            rintro e w4 ⟨rfl, hB4, hL4⟩
            have HB4 := Lib.hid hB4
            have HL4 := Lib.hid (HL3.out.trans hL4)
            clear hB4 hL4 HB3 HL3 HCE HW1 HW2
            go_wp2
            go_roundg (i - 1 - (j + 1))
            · exact ⟨j + 1, by omega, rfl, by first | rfl | go_num, HB4, HL4⟩
            · omega
          · have hjz : ¬ (j : Int) < ((i - 1 : Nat) : Int) := by omega
            have hjz2 : ¬ (j : Int) < (i : Int) - 1 := by omega
            have hji : j + 1 = i := by omega
            have HT : Hid (ps.take (j + 1) = ps) := Lib.hid (List.take_of_length_le (by rw [HN.out]; omega))
            rw [HT.out] at HB
            have HK := Lib.hid (bString_any w.heap.size w.heap.size (joinC c.toNat ps) wr HB.out (by intro e; have := congrArg List.length e; rw [joinC_tot, HN.out] at this; simp at this; omega) (joinC_lt c.toNat hcb ps HPS.out))
            go_wp2_with fail
            refine HK.out.mono ?_
            rintro e w5 ⟨rfl, hL5⟩
            go_wp2
            go_ret
            refine ⟨rfl, Upd.of_below ?_⟩
            exact HL.out.trans hL5
end Go.Proofs.YtigjingielnaoaaDoor
