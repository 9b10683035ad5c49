/- Package strings: Builder.Grow of a fresh builder, Join with a sign: walks. -/
import Derived.Lib.MakeNoZero
import Derived.Shelf.RegionOpen
import Derived.Test.YtigjingielnaoaaDoorQAL
namespace Go.Proofs.YtigjingielnaoaaDoor
set_option linter.unusedVariables false
set_option linter.unusedSimpArgs false
set_option linter.unusedSectionVars false
open Go.RowKit
set_option linter.unusedVariables false

theorem sizeBy8 : (Tryd.prog.info? 5).map (fun x => x.size) = some 1 := by kernel_rfl
set_option maxHeartbeats 2000000 in
set_option maxRecDepth 1000000 in
theorem growB_any {T : TypeId} (hT : IsBldT T) (B b n : Nat) (w : World) (hB : B ≤ b) (hbk : w.heap[b]? = some (.cells #[.pointer (some ⟨b, 0, none⟩), .slice none 0 0] T (0, 0))) (hBw : B ≤ w.heap.size) (hn : n ≤ 281474976710656) :
    Calls Tryd.prog 101 #[.pointer (some ⟨b, 0, none⟩), .int .i64 (n : Nat)] w fun e w' => e = .returned (.tuple #[]) ∧ Bld T B b [] w' ∧ Below B w w' := by
  obtain ⟨cs, hrun, hle, hmax⟩ := Lib.run_makeNoZero (P := Tryd.prog) w.drew #[3] 85 5 Tryd.underlying85 n hn
  have hw : IntKind.i64.wrap (IntKind.i64.wrap 0 + (n : Int)) = n := by
    rw [IntKind.wrap_i64, IntKind.wrap_i64]
    omega
  have hcall : (callFunc 119 #[.int .i64 (IntKind.i64.wrap (IntKind.i64.wrap 0 + (n : Int)))]).run Tryd.prog w.drew = .ok (.value (.slice (some ⟨w.drew.heap.size, 0, none⟩) n cs.size)) (w.drew.drew.drew.alloc (.cells cs 5)) := by
    rw [hw, run_callFunc_extern Tryd.func119 (by kernel_rfl) (by kernel_rfl) (by kernel_rfl) (e := Extern.BytealgMakeNoZero.makeNoZero #[3] #[85]) (by kernel_rfl), hrun]
    rfl
  have hlt : b < w.heap.size := by
    rcases Nat.lt_or_ge b w.heap.size with h' | h'
    · exact h'
    · simp [Array.getElem?_eq_none h'] at hbk
  have c1 : w.drew.cell? ⟨b, 1, none⟩ = some (.slice none 0 0) := by
    have : w.drew.heap[b]? = _ := hbk
    rw [Lib.cell_of_heap this]; rfl
  have c2 : (w.alloc (.cells cs 5)).cell? ⟨b, 1, none⟩ = some (.slice none 0 0) := by
    have : (w.alloc (.cells cs 5)).heap[b]? = _ := (Lib.alloc_old w _ b hlt).trans hbk
    rw [Lib.cell_of_heap this]; rfl
  have f2 : (w.alloc (.cells cs 5)).frozen? ⟨b, 1, none⟩ = false := Lib.frozen_of_heap ((Lib.alloc_old w _ b hlt).trans hbk) 1
  have hcopy : ∀ W : World, (Builtin.copy_ #[85, 85] 3 #[.slice (some ⟨w.heap.size, 0, none⟩) 0 cs.size, .slice none 0 0]).run Tryd.prog W = .ok (goInt 0) W :=
    fun W => run_copy_none W 85 85 3 5 _ _ 0 cs.size 0 0 Tryd.underlying85 sizeBy8 rfl
  clear hw
  have hfin := Lib.grown_fresh (T := T) (e := 5) (cs := cs) hB hbk hBw (hmax (by unfold maxLen; omega)) hT.2
  rw [World.setCell_alloc_past _ _ _ _ hlt] at hfin
  have HFIN := Lib.hid hfin
  clear hfin
  go_enter Tryd.func101, Tryd.ntmps101
  go_wp2
  go_region
  all_goals (go_wp2; go_end0; exact ⟨rfl, .inr HFIN.out.1, HFIN.out.2⟩)
set_option maxRecDepth 100000 in
theorem copyCheckF_any {T : TypeId} (hT : IsBldT T) (B b : Nat) (w : World) (hB : B ≤ b) (hbk : w.heap[b]? = some (.cells #[.pointer none, .slice none 0 0] T (0, 0))) :
    Calls Tryd.prog 100 #[.pointer (some ⟨b, 0, none⟩)] w fun e w' => e = .returned (.tuple #[]) ∧ w' = w.setCell ⟨b, 0, none⟩ (.pointer (some ⟨b, 0, none⟩)) := by
  obtain ⟨j, hj, hjs⟩ := Option.map_eq_some_iff.1 sizeBld
  have h0 : w.cell? ⟨b, 0, none⟩ = some (.pointer none) := by rw [Lib.cell_of_heap hbk]; rfl
  have hsh : w.shape? b = some (T, 2) := by simp [World.shape?, hbk]
  have hfz := Lib.frozen_of_heap hbk 0
  clear hbk
  go_enter Tryd.func100, Tryd.ntmps100
  go_wp2
  rw [Lib.run_to_unsafe w ⟨b, 0, none⟩ Tryd.underlying101 Tryd.underlying126 hj (by rw [hjs]; decide) hsh (Nat.zero_lt_succ 1)]
  simp only [Result.andThen]
  rw [Oper.upon_value]
  go_wp2
  rw [run_callFunc_extern Tryd.func118 (by kernel_rfl) (by kernel_rfl) (by kernel_rfl) (e := Extern.AbiNoEscape.same) (by kernel_rfl)]
  rw [Lib.run_noEscape]
  simp only [Result.andThen]
  rw [Oper.upon_value]
  go_wp2
  rw [Lib.run_from_unsafe w ⟨b, 0, none⟩ Tryd.underlying126 Tryd.underlying101 hj hsh hT.1]
  simp only [Result.andThen]
  rw [Oper.upon_value]
  go_wp2
  go_end0
  exact ⟨rfl, rfl⟩
set_option maxHeartbeats 2000000 in
set_option maxRecDepth 1000000 in
theorem growF_any {T : TypeId} (hT : IsBldT T) (B b n : Nat) (w : World) (hB : B ≤ b) (hbk : w.heap[b]? = some (.cells #[.pointer none, .slice none 0 0] T (0, 0))) (hBw : B ≤ w.heap.size) (hn : n ≤ 281474976710656) (hn0 : 0 < n) :
    Calls Tryd.prog 70 #[.pointer (some ⟨b, 0, none⟩), .int .i64 (n : Nat)] w fun e w' => e = .returned (.tuple #[]) ∧ Bld T B b [] w' ∧ Below B w w' := by
  have hbk1 : (w.setCell ⟨b, 0, none⟩ (.pointer (some ⟨b, 0, none⟩))).heap[b]? = some (.cells #[.pointer (some ⟨b, 0, none⟩), .slice none 0 0] T (0, 0)) := by
    simp [World.setCell, Array.getElem?_modify, hbk]
  have c1 : (w.setCell ⟨b, 0, none⟩ (.pointer (some ⟨b, 0, none⟩))).cell? ⟨b, 1, none⟩ = some (.slice none 0 0) := by rw [Lib.cell_of_heap hbk1]; rfl
  have HL := Lib.hid ((Below.refl B w).setCell (p := ⟨b, 0, none⟩) hB (.pointer (some ⟨b, 0, none⟩)))
  have HCC := Lib.hid (copyCheckF_any hT B b w hB hbk)
  have HB1 := Lib.hid hbk1
  have hBw1 : B ≤ (w.setCell ⟨b, 0, none⟩ (.pointer (some ⟨b, 0, none⟩))).heap.size := by rw [World.size_setCell]; exact hBw
  have hnz : ¬ (n : Int) < 0 := by omega
  have hnz2 : (0 : Int) < (n : Int) := by omega
  clear hbk hbk1
  go_enter Tryd.func70, Tryd.ntmps70
  go_wp2_with fail
  refine HCC.out.mono ?_
  rintro e w' ⟨rfl, rfl⟩
  go_wp2
  generalize w.setCell ⟨b, 0, none⟩ (.pointer (some ⟨b, 0, none⟩)) = w1 at *
  go_quiet (fail)
  rename_i nq
  have HG := Lib.hid (growB_any hT B b n (w1.drewN nq) hB HB1.out hBw1 hn)
  go_wp2_with fail
  refine HG.out.mono ?_
  rintro e w2 ⟨rfl, h1, h2⟩
  go_wp2
  go_end0
  exact ⟨rfl, h1, HL.out.trans (((Upd.refl [] w1).drewN nq).belowB hBw1 |>.trans h2)⟩
end Go.Proofs.YtigjingielnaoaaDoor
namespace Go.Proofs.YtigjingielnaoaaDoor
set_option linter.unusedVariables false
set_option linter.unusedSimpArgs false
set_option linter.unusedSectionVars false
open Go.RowKit
set_option linter.unusedVariables false

def totC (ps : List (List Nat)) : Nat := (ps.map List.length).sum
theorem totC_snoc (ps : List (List Nat)) (p : List Nat) : totC (ps ++ [p]) = totC ps + p.length := by simp [totC]
theorem totC_take (ps : List (List Nat)) (k : Nat) : totC (ps.take k) ≤ totC ps := by
  conv => rhs; rw [← List.take_append_drop k ps]
  unfold totC
  rw [List.map_append, List.sum_append_nat]
  omega
theorem joinC_tot (c : Nat) : ∀ ps : List (List Nat), (joinC c ps).length = totC ps + (ps.length - 1)
  | [] => rfl
  | [p] => by simp [joinC, totC]
  | p :: q :: r => by
    have ih := joinC_tot c (q :: r)
    rw [joinC, List.length_append, List.length_cons, ih]
    simp [totC]; omega
theorem isBldB : IsBldT 103 := ⟨by kernel_rfl, by decide⟩
set_option maxRecDepth 100000 in
set_option maxHeartbeats 3200000 in
theorem joinC_any (ps : List (List Nat)) (c : UInt8) (v : Value) (w : World) (h : TextsAt w v ps) (hps : ∀ p ∈ ps, ∀ x ∈ p, x < 256) (hn : ps.length ≤ 1000) (ht : totC ps ≤ 100000000) :
    Calls Tryd.prog 42 #[v, .string { data := #[c] }] w fun e w' => e = .returned (.string (strOf (joinC c.toNat ps))) ∧ Upd [] w w' := by
  obtain ⟨a, cap, rfl, hcap, h⟩ := h
  have H := Lib.hid h
  have HPS := Lib.hid hps
  clear h hps
  obtain ⟨n, hnn⟩ : ∃ n, ps.length = n := ⟨_, rfl⟩
  have hcb : c.toNat < 256 := c.toNat_lt
  rw [hnn] at hn hcap ⊢
  have HN := Lib.hid hnn
  have HTT := Lib.hid (totC_take ps)
  by_cases h0 : n = 0
  · have HE : Hid (strOf (joinC c.toNat ps) = .empty) := Lib.hid (by rw [List.eq_nil_of_length_eq_zero (hnn.trans h0)]; rfl)
    subst h0
    clear hnn
    go_enter Tryd.func42, Tryd.ntmps42
    go_wp2
    go_ret
    exact ⟨by rw [HE.out]; rfl, Upd.refl _ _⟩
  by_cases h1 : n = 1
  · have HE : Hid (joinC c.toNat ps = ps[0]'(by omega)) := Lib.hid (by
      match ps, hnn with
      | [p], _ => rfl
      | [], e => exact absurd e.symm h0
      | p :: q :: r, e => simp at e; omega)
    obtain ⟨b, off, rfl, hc⟩ := H.out 0 (by omega)
    rw [Nat.add_zero] at hc
    rw [← HE.out] at hc
    clear HE HN
    subst h1
    clear h0 H
    have HNN := Lib.hid hnn
    clear hnn
    go_enter Tryd.func42, Tryd.ntmps42
    go_wp2
    go_ret
    exact ⟨rfl, Upd.refl _ _⟩
  · obtain ⟨b, off, rfl, hc0⟩ := H.out 0 (by omega)
    have H2 : Hid (∀ i, (hi : i < ps.length) → w.cell? ⟨b, off + i, none⟩ = some (.string (strOf ps[i]))) := Lib.hid (fun i hi => by
      obtain ⟨b2, o2, e, h2⟩ := H.out i hi
      simp only [Option.some.injEq, Addr.mk.injEq, and_true] at e
      obtain ⟨rfl, rfl⟩ := e
      exact h2)
    have hq : ¬ (9223372036854775807 : Int) / ((n : Int) - 1) ≤ 1 := by
      have : (2 : Int) ≤ 9223372036854775807 / ((n : Int) - 1) := (Int.le_ediv_iff_mul_le (by omega)).2 (by omega)
      omega
    have h0z : ((n : Int) == 0) = false := by rw [beq_eq_false_iff_ne]; omega
    have h1z : ((n : Int) == 1) = false := by rw [beq_eq_false_iff_ne]; omega
    have hn1 : (0 : Int) ≤ (n : Int) - 1 := by omega
    have hn2 : (n : Int) - 1 ≤ 1000 := by omega
    have hn2b : (n : Int) ≤ 1000 := by omega
    have hpos : 1 < n := by omega
    have hposz : (1 : Int) ≤ (n : Int) := by omega
    have hcapz : (n : Int) ≤ (cap : Int) := by omega
    clear hnn h0 h1 H hc0
    go_enter Tryd.func42, Tryd.ntmps42
    go_wp2
    go_loopg [5, 41] n (fun gg s5 s41 wr => ∃ i, i ≤ n ∧ gg = n - i ∧ s41 = .int .i64 (i : Nat) ∧ ∃ m : Nat, s5 = .int .i64 (m : Nat) ∧ Hid (m + 1 = n + totC (ps.take i)) ∧ Hid (wr = w))
    case atStart => exact ⟨0, Nat.zero_le _, rfl, rfl, n - 1, by rw [show ((n - 1 : Nat) : Int) = (n : Int) - 1 by omega], Lib.hid (by simp [totC]; omega), Lib.hid rfl⟩
    case round =>
      obtain ⟨i, hin, rfl, rfl, m, rfl, HM, HW⟩ := hrel
      have hwr := HW.out.symm
      subst hwr
      clear HW
      have htk := HTT.out i
      have hml : m ≤ 200000000 := by have := HM.out; omega
      by_cases hc : i < n
      · have hcz : (i : Int) < (n : Int) := by omega
        have hil : i < ps.length := by rw [HN.out]; exact hc
        have hce := H2.out i hil
        have hsz : (strOf ps[i]).size = ps[i].length := size_strOf _
        have hM2 : Hid (m + (strOf ps[i]).size + 1 = n + totC (ps.take (i + 1))) := Lib.hid (by
          rw [List.take_succ_eq_append_getElem hil, totC_snoc, hsz, ← Nat.add_assoc, ← HM.out]; omega)
        have hle : (strOf ps[i]).size ≤ 100000000 := by
          have h1 := HTT.out (i + 1)
          rw [List.take_succ_eq_append_getElem hil, totC_snoc] at h1
          omega
        clear hsz
        generalize strOf ps[i] = S at *
        have hov : ¬ 9223372036854775807 - (m : Int) < (S.size : Int) := by omega
        go_wp2
        go_roundg (n - (i + 1))
        · exact ⟨i + 1, by omega, rfl, by first | rfl | go_num, m + S.size, by first | rfl | go_num, hM2, Lib.hid rfl⟩
        · omega
      · have hcz : ¬ (i : Int) < (n : Int) := by omega
        have hni : i = n := by omega
        subst hni
        have hm0 : 0 < m := by have := HM.out; omega
        have HGR := Lib.hid (growF_any isBldB w.heap.size w.heap.size m (w.alloc (.cells #[.pointer none, .slice none 0 0] 103)) (Nat.le_refl _) (heap_alloc_new w _) (by simp) (by omega) hm0)
        have hil0 : 0 < ps.length := by rw [HN.out]; omega
        have hce := H2.out 0 hil0
        rw [Nat.add_zero] at hce
        obtain ⟨S0, hS0⟩ : ∃ S, S = strOf ps[0] := ⟨_, rfl⟩
        rw [← hS0] at hce
        have hb0 : bytesOf S0 = joinC c.toNat (ps.take 1) := by
          rw [hS0, bytesOf_strOf _ (HPS.out _ (List.getElem_mem hil0)), List.take_succ_eq_append_getElem hil0]; rfl
        have hs0 : S0.size ≤ 100000000 := by
          have h1 := HTT.out 1
          rw [List.take_succ_eq_append_getElem hil0] at h1
          rw [hS0, size_strOf]
          simp [totC] at h1 ht
          omega
        have HWS := Lib.hid (fun (w9 : World) h9 h8 => writeString_any isBldB w.heap.size w.heap.size [] S0 w9 h9 (by simp; omega) h8)
        rw [List.nil_append, hb0] at HWS
        clear hS0 hb0 hs0 hil0 HM htk hml
        go_wp2_with fail
        refine HGR.out.mono ?_
        rintro e w1 ⟨rfl, hB1, hL1⟩
        have HB1 := Lib.hid hB1
        have HL1 := Lib.hid (((Below.refl w.heap.size w).alloc (Nat.le_refl _) (.cells #[.pointer none, .slice none 0 0] 103)).trans hL1)
        clear hB1 hL1 HGR
        have hbB := textCell_lt hce
        have hce1 := (HL1.out.cell (p := ⟨b, off, none⟩) (textCell_lt hce)).trans hce
        go_wp2_with fail
        refine (HWS.out _ HB1.out HL1.out.size).mono ?_
        rintro e w2 ⟨rfl, hB2, hL2⟩
        have HB2 := Lib.hid hB2
        have HL2 := Lib.hid (HL1.out.trans hL2)
        clear hB2 hL2 HB1 HL1 HWS hce hce1
        have hcapb : 1 < cap := by omega
        have hcapc : (1 : Int) ≤ (cap : Int) := by omega
        have hcapd : (cap == 1) = false := by rw [beq_eq_false_iff_ne]; omega
        have hcape : ¬ cap = 1 := by omega
        go_wp2
        go_loopg [65] (i - 1) (fun gg s65 wq => ∃ j, j ≤ i - 1 ∧ gg = i - 1 - j ∧ s65 = .int .i64 (j : Nat) ∧ Hid (Bld 103 w.heap.size w.heap.size (joinC c.toNat (ps.take (j + 1))) wq) ∧ Hid (Below w.heap.size w wq))
        case atStart => exact ⟨0, Nat.zero_le _, rfl, rfl, HB2, HL2⟩
        case round =>
          clear HB2 HL2
          obtain ⟨j, hjn, rfl, rfl, HB, HL⟩ := hrel
          by_cases hj : j < i - 1
          · have hjz : (j : Int) < ((i - 1 : Nat) : Int) := by omega
            have hjz2 : (j : Int) < (i : Int) - 1 := by omega
            have hil : j + 1 < ps.length := by rw [HN.out]; omega
            have hce := (HL.out.cell (p := ⟨b, off + (j + 1), none⟩) hbB).trans (H2.out (j + 1) hil)
            have hT : ps.take (j + 1 + 1) = ps.take (j + 1) ++ [ps[j + 1]] := List.take_succ_eq_append_getElem hil
            have hne : ps.take (j + 1) ≠ [] := by intro e; have := congrArg List.length e; rw [List.length_take, HN.out, List.length_nil] at this; omega
            have hJ : joinC c.toNat (ps.take (j + 1 + 1)) = joinC c.toNat (ps.take (j + 1)) ++ [c.toNat] ++ ps[j + 1] := by rw [hT, joinC_snoc _ _ _ hne, List.append_assoc]; rfl
            have hbj : bytesOf (strOf ps[j + 1]) = ps[j + 1] := bytesOf_strOf _ (HPS.out _ (List.getElem_mem hil))
            have hlen1 : (joinC c.toNat (ps.take (j + 1))).length ≤ 100001000 := by
              rw [joinC_tot]
              have := HTT.out (j + 1)
              rw [List.length_take]
              omega
            have hlen2 : (strOf ps[j + 1]).size ≤ 100000000 := by
              have h1 := HTT.out (j + 1 + 1)
              rw [hT, totC_snoc] at h1
              rw [size_strOf]; omega
            have hbc : bytesOf ({ data := #[c] } : ByteArray) = [c.toNat] := rfl
            have HW1 := Lib.hid (fun (w9 : World) h9 h8 => writeString_any isBldB w.heap.size w.heap.size (joinC c.toNat (ps.take (j + 1))) ({ data := #[c] } : ByteArray) w9 h9 (by show _ + 1 ≤ _; omega) h8)
            have HW2 := Lib.hid (fun (w9 : World) h9 h8 => writeString_any isBldB w.heap.size w.heap.size (joinC c.toNat (ps.take (j + 1)) ++ [c.toNat]) (strOf ps[j + 1]) w9 h9 (by rw [List.length_append]; simp; omega) h8)
            rw [hbc] at HW1
            rw [hbj, ← hJ] at HW2
            clear hJ hbj hlen1 hlen2 hT hne hbc
            generalize strOf ps[j + 1] = S at *
            rw [show off + (j + 1) = off + 1 + j by omega] at hce
            have HCE := Lib.hid hce
            go_wp2_with fail
            refine (HW1.out _ HB.out (by have := HL.out.size; omega)).mono ?_
            rintro e w3 ⟨rfl, hB3, hL3⟩
            have HB3 := Lib.hid hB3
            have HL3 := Lib.hid (HL.out.trans hL3)
            clear hB3 hL3 HB HL hce
            go_wp2_with fail
            refine (HW2.out _ HB3.out (by have := HL3.out.size; omega)).mono ?_
            rintro e w4 ⟨rfl, hB4, hL4⟩
            have HB4 := Lib.hid hB4
            have HL4 := Lib.hid (HL3.out.trans hL4)
            clear hB4 hL4 HB3 HL3 HCE HW1 HW2
            go_wp2
            go_roundg (i - 1 - (j + 1))
            · exact ⟨j + 1, by omega, rfl, by first | rfl | go_num, HB4, HL4⟩
            · omega
          · have hjz : ¬ (j : Int) < ((i - 1 : Nat) : Int) := by omega
            have hjz2 : ¬ (j : Int) < (i : Int) - 1 := by omega
            have hji : j + 1 = i := by omega
            have HT : Hid (ps.take (j + 1) = ps) := Lib.hid (List.take_of_length_le (by rw [HN.out]; omega))
            rw [HT.out] at HB
            have HK := Lib.hid (bString_any w.heap.size w.heap.size (joinC c.toNat ps) wr HB.out (by intro e; have := congrArg List.length e; rw [joinC_tot, HN.out] at this; simp at this; omega) (joinC_lt c.toNat hcb ps HPS.out))
            go_wp2_with fail
            refine HK.out.mono ?_
            rintro e w5 ⟨rfl, hL5⟩
            go_wp2
            go_ret
            refine ⟨rfl, Upd.of_below ?_⟩
            exact HL.out.trans hL5
end Go.Proofs.YtigjingielnaoaaDoor
namespace Go.Proofs.YtigjingielnaoaaDoor
set_option linter.unusedVariables false
set_option linter.unusedSimpArgs false
set_option linter.unusedSectionVars false
open Go.RowKit
set_option linter.unusedVariables false
set_option linter.unusedSimpArgs false

/-- A slice of strings of the call's own. -/
def OwnS (w0 w : World) (v : Value) (L : List (List Nat)) : Prop := Row w 9 1 v L.length (strsV L) ∧ ∀ k, v.ownBlock = some k → w0.heap.size ≤ k
theorem OwnS.nil (w0 w : World) : OwnS w0 w (.slice none 0 0) [] := ⟨Row.nil _ _ _, fun k h => by cases h⟩
theorem OwnS.upd {w0 w w' : World} {v : Value} {L : List (List Nat)} (h : OwnS w0 w v L) (hu : Upd [] w w') : OwnS w0 w' v L := ⟨h.1.upd hu (by simp), h.2⟩
theorem OwnS.texts {w0 w : World} {v : Value} {L : List (List Nat)} (h : OwnS w0 w v L) : TextsAt w v L := Row.textsAt h.1
theorem OwnS.app {w0 w w' : World} {v v' : Value} {L : List (List Nat)} {p : List Nat} (o : Obj) (h : OwnS w0 w v L) (hu : Upd [] w0 w) (hR : Row w' 9 1 v' (L.length + 1) (strsV L ++ [.string (strOf p)])) (hU : Upd v.ownBlock.toList (w.alloc o) w') (hT : Later (w.alloc o) v v') :
    OwnS w0 w' v' (L ++ [p]) ∧ Upd [] w0 w' := by
  refine ⟨⟨?_, ?_⟩, ?_⟩
  · rw [List.length_append, List.length_singleton]
    have e : strsV (L ++ [p]) = strsV L ++ [.string (strOf p)] := by unfold strsV; rw [List.map_append]; rfl
    rw [e]; exact hR
  · intro k hk
    rcases hT with h1 | ⟨g, h1, h2⟩
    · exact h.2 k (by rw [← h1]; exact hk)
    · rw [h1] at hk; simp at hk h2; have := hu.size; omega
  · exact (hu.alloc o).trans hU (fun k hk => .inr (h.2 k (by simpa using hk)))
theorem OwnS.form {w0 w : World} {v : Value} {L : List (List Nat)} (h : OwnS w0 w v L) : ∃ a c, v = .slice a L.length c := h.1.form
end Go.Proofs.YtigjingielnaoaaDoor
