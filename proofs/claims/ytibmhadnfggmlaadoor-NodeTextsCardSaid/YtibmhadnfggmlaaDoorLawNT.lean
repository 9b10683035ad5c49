/- The law swinglelaw14.NodeTexts: its walk. -/
import Derived.Test.YtibmhadnfggmlaaDoorNParse
import Derived.Test.YtibmhadnfggmlaaDoorRText
import Derived.Test.YtibmhadnfggmlaaDoorLivD
import Derived.Test.YtibmhadnfggmlaaDoorEqlP
import Derived.Deep.CutBlock
namespace Go.Proofs.YtibmhadnfggmlaaDoor
set_option linter.unusedVariables false
set_option linter.unusedSimpArgs false
set_option linter.unusedSectionVars false
open Go.RowKit
set_option linter.unusedVariables false
set_option linter.unusedSimpArgs false

theorem neqPrint {a : Act} {o : Oper} {x y : Operand} {T : TypeId} (ho : o.op = .binOp .neq 32 x y T) (k m t s c : Int) (hx : a.eval x = printL k m t s c) (hy : a.eval y = printL k m t s c) (w : World) :
    (execOp a.eval o).run Tryd.prog w = .ok (.value (.bool false)) w := by
  simp only [execOp, ho, hx, hy, printL]
  go_simp
theorem textP_len (p : PrN) : p.text.length ≤ 2000 := by
  unfold PrN.text textP
  cases hf : fineB p.k p.m p.t p.s p.c with
  | false => rw [if_pos rfl]; simp
  | true =>
    rw [if_neg (by decide)]
    by_cases h0 : p.k = 0
    · rw [if_pos h0]; simp
    · rw [if_neg h0]
      by_cases h2 : p.k = 2
      · rw [if_pos h2, List.length_append, permTo_len]; simp
      · rw [if_neg h2, joinC_tot]
        have hc := fineB_cases hf
        have := fileW_tot p.m.toNat p.t p.s.toNat p.c (by omega)
        have e : (fileW p.m.toNat p.t p.s.toNat p.c).length = 5 := rfl
        omega
theorem strOf_isEmpty (l : List Nat) : (strOf l).toList.isEmpty = l.isEmpty := by
  rw [ByteArray.toList_eq]
  cases l <;> rfl
set_option maxRecDepth 100000 in
set_option maxHeartbeats 12800000 in
theorem law_nodeTexts (p : PrN) (s0 : ByteArray) (m : Int) (w : World) (ht : p.t < 4294967296) (hc : p.c < 4294967296) (hs0 : s0.size ≤ 9223372036854775807) :
    Calls Tryd.prog 4 #[p.val, .string s0, .int .i64 m] w fun e w' => e = .returned (.bool true) ∧ Upd [] w w' := by
  have hc2 : (0 : Int) ≤ min (s0.size : Int) 100 := by omega
  have hc3 : min (s0.size : Int) 100 ≤ (s0.size : Int) := by omega
  obtain ⟨D, hsd⟩ : ∃ s, s = s0.extract 0 (min (s0.size : Int) 100).toNat := ⟨_, rfl⟩
  have hss : D.size ≤ 100 := by rw [hsd, ByteArray.size_extract]; omega
  have HSD := Lib.hid hsd
  clear hsd
  have HLV := Lib.hid (fun w => lives14_any w)
  have HFN := Lib.hid (fun w => nfine_any p.k p.m p.t p.s p.c w ht hc)
  have HFR := Lib.hid (fun w => rfine_any p.k p.m p.t p.s p.c w ht hc)
  have HTN := Lib.hid (fun w => ntext_any p.k p.m p.t p.s p.c w ht hc)
  have HTR := Lib.hid (fun w => rtext14_any p.k p.m p.t p.s p.c w ht hc)
  obtain ⟨TX, hTX⟩ : ∃ TX, strOf p.text = TX := ⟨_, rfl⟩
  have hTX' : strOf (textP p.k p.m p.t p.s p.c) = TX := hTX
  have hb : bytesOf TX = p.text := by rw [← hTX, bytesOf_strOf _ (textP_lt p)]
  have hz : TX.size ≤ 2000 := by rw [← hTX, size_strOf]; exact textP_len p
  have HPA := Lib.hid (fun w => nparse_any TX w (by omega))
  have HPB := Lib.hid (fun w => nparse_any D w (by omega))
  rw [hb] at HPA
  rw [hTX'] at HTN HTR
  obtain ⟨PA, hPA⟩ : ∃ PA, parseN p.text = PA := ⟨_, rfl⟩
  obtain ⟨FB, hFB⟩ : ∃ FB, p.fine = FB := ⟨_, rfl⟩
  have H32 := parseOk_text ht hc
  rw [hPA, hFB] at H32
  rw [hPA, H32.1] at HPA
  have HA : Hid ((FB = true → PA = p) ∧ (FB = false → PA = PrN.no)) := Lib.hid H32.2
  clear hTX hTX' hb hz hPA H32
  have hFB' : fineB p.k p.m p.t p.s p.c = FB := hFB
  rw [hFB'] at HFN HFR
  clear hFB hFB'
  have HOB : Hid ((parseOk (bytesOf D) = true → (parseN (bytesOf D)).fine = true ∧ strOf (parseN (bytesOf D)).text = D) ∧ (parseOk (bytesOf D) = false → parseN (bytesOf D) = PrN.no)) := Lib.hid ⟨fun h => ⟨(parse_of_ok h).1, by rw [(parse_of_ok h).2, strOf_bytesOf]⟩, fun h => parse_no h⟩
  have HBD : Hid ((parseN (bytesOf D)).t < 4294967296 ∧ (parseN (bytesOf D)).c < 4294967296) := Lib.hid (by
    unfold parseN
    split
    · exact preP_bd _
    · exact ⟨Nat.zero_lt_succ _, Nat.zero_lt_succ _⟩)
  generalize parseOk (bytesOf D) = OB at *
  generalize parseN (bytesOf D) = PB at *
  have HPI := Lib.hid (fun w => permI_any m w)
  have HM1 := Lib.hid (fun w => mode14_any (strOf (permI m)) w (by rw [size_strOf]; unfold permI; split <;> simp [permTo_len]))
  have HM2 := Lib.hid (fun w => mode14_any D w (by omega))
  have hpl : ∀ x ∈ permI m, x < 256 := by
    unfold permI; split
    · exact permTo_lt _ 9
    · intro x hx; cases hx
  rw [bytesOf_strOf _ hpl] at HM1
  have HR1 : Hid ((0 ≤ m ∧ m ≤ 511 → ((modeP (permI m)).1 : Int) = m ∧ (modeP (permI m)).2 = true ∧ (strOf (permI m)).toList.isEmpty = false ∧ ∀ w, Calls Tryd.prog 19 #[.int .i64 m] w fun e w' => e = .returned (.string (strOf (permI m))) ∧ Upd [] w w') ∧ (¬ (0 ≤ m ∧ m ≤ 511) → (modeP (permI m)).2 = false ∧ strOf (permI m) = .empty)) := Lib.hid (by
    refine ⟨fun h => ?_, fun h => ?_⟩
    · have e : permI m = permTo m.toNat 9 := if_pos h
      have hl := permTo_len m.toNat 9
      rw [e, modeP_perm _ (by omega), strOf_isEmpty]
      refine ⟨by simp only; omega, rfl, ?_, fun w => ?_⟩
      · cases hq : permTo m.toNat 9 with
        | nil => rw [hq] at hl; simp at hl
        | cons a b => rfl
      · have := rperm_any m.toNat w (by omega)
        rw [show ((m.toNat : Nat) : Int) = m by omega] at this
        exact this
    · have e : permI m = [] := if_neg h
      rw [e]
      exact ⟨rfl, rfl⟩)
  have HR2 : Hid (((modeP (bytesOf D)).2 = true → (modeP (bytesOf D)).1 < 512 ∧ strOf (permTo (modeP (bytesOf D)).1 9) = D) ∧ ((modeP (bytesOf D)).2 = false → (modeP (bytesOf D)).1 = 0)) := Lib.hid ⟨fun h => ⟨(modeP_true h).1, by rw [(modeP_true h).2, strOf_bytesOf]⟩, fun h => modeP_false h⟩
  unfold modeV at HM1 HM2
  generalize (modeP (permI m)).1 = M1 at *
  generalize (modeP (permI m)).2 = B1 at *
  generalize (modeP (bytesOf D)).1 = M2 at *
  generalize (modeP (bytesOf D)).2 = B2 at *
  generalize strOf (permI m) = PM at *
  clear hpl
  have HBD2 : Hid (PB.t < 4294967296 ∧ PB.c < 4294967296) := HBD
  have HFB := Lib.hid (fun w => rfine_any PB.k PB.m PB.t PB.s PB.c w HBD2.out.1 HBD2.out.2)
  have HTB := Lib.hid (fun w => rtext14_any PB.k PB.m PB.t PB.s PB.c w HBD2.out.1 HBD2.out.2)
  have HFB' : Hid (fineB PB.k PB.m PB.t PB.s PB.c = PB.fine) := Lib.hid rfl
  have HTB' : Hid (textP PB.k PB.m PB.t PB.s PB.c = PB.text) := Lib.hid rfl
  rw [HFB'.out] at HFB
  rw [HTB'.out] at HTB
  clear HFB' HTB' HBD HBD2
  unfold PrN.val at HPA HPB
  unfold PrN.val
  unfold printI at HFN HFR HTN HTR HPA HPB HFB HTB
  unfold printI
  have HB0 := Lib.hid (Blk.new w p.cells 32)
  have HU0 := Lib.hid ((Upd.refl [] w).alloc (.cells (p.cells).toArray 32))
  go_enter Tryd.func4, Tryd.ntmps4
  go_wp2_with fail
  refine (HTR.out _).mono ?_
  rintro e w1 ⟨rfl, hu1⟩
  have HB1 := Lib.hid (HB0.out.upd hu1 (by simp))
  have HU1 := Lib.hid (HU0.out.then hu1)
  clear HB0 HU0 hu1
  go_wp2_with fail
  refine (HPA.out _).mono ?_
  rintro e w2 ⟨rfl, hu2⟩
  have HB2 := Lib.hid ((HB1.out.upd hu2 (by simp)).alloc (.cells (PA.cells).toArray 32))
  have HU2 := Lib.hid ((HU1.out.then hu2).alloc (.cells (PA.cells).toArray 32))
  have HA2 := Lib.hid (Blk.new w2 PA.cells 32)
  clear HB1 HU1 hu2 HPA
  go_wp2_with fail
  rw [← HSD.out]
  generalize w.heap.size = q3 at *
  generalize w2.heap.size = q7 at *
  refine (HPB.out _).mono ?_
  rintro e w3 ⟨rfl, hu3⟩
  have HB3 := Lib.hid ((HB2.out.upd hu3 (by simp)).alloc (.cells (PB.cells).toArray 32))
  have HU3 := Lib.hid ((HU2.out.then hu3).alloc (.cells (PB.cells).toArray 32))
  have HA3 := Lib.hid ((HA2.out.upd hu3 (by simp)).alloc (.cells (PB.cells).toArray 32))
  have HC3 := Lib.hid (Blk.new w3 PB.cells 32)
  clear HB2 HU2 HA2 hu3 HPB
  go_upto_region 5 with fail
  change Code.wp _ _ _ _ (w3.alloc (.cells (PB.cells).toArray 32))
  generalize w3.alloc (.cells (PB.cells).toArray 32) = w4 at *
  generalize w3.heap.size = q9 at *
  obtain ⟨RB, hRB⟩ : ∃ RB, RB = (decide (0 ≤ m) && decide (m ≤ 511)) := ⟨_, rfl⟩
  have HRB := Lib.hid hRB
  clear hRB
  go_cut [37] (fun s37 wx => s37 = .bool RB ∧ Blk wx q3 p.cells 32 ∧ Blk wx q7 PA.cells 32 ∧ Blk wx q9 PB.cells 32 ∧ Upd [] w wx)
  case first =>
    by_cases r0 : 0 ≤ m
    · have t1 : decide (0 ≤ m) = true := decide_eq_true r0
      by_cases r1 : m ≤ 511
      · have t2 : decide (m ≤ 511) = true := decide_eq_true r1
        go_wp2
        go_meet
        exact ⟨by rw [HRB.out, t1, t2]; rfl, HB3.out, HA3.out, HC3.out, HU3.out⟩
      · have t2 : decide (m ≤ 511) = false := decide_eq_false r1
        go_wp2
        go_meet
        exact ⟨by rw [HRB.out, t1, t2]; rfl, HB3.out, HA3.out, HC3.out, HU3.out⟩
    · have t1 : decide (0 ≤ m) = false := decide_eq_false r0
      go_wp2
      go_meet
      exact ⟨by rw [HRB.out, t1]; rfl, HB3.out, HA3.out, HC3.out, HU3.out⟩
  case rest =>
    clear HB3 HU3 HA3 HC3
    obtain ⟨rfl, hB4, hA4, hC4, hU4⟩ := hcut
    have HB4 := Lib.hid hB4
    have HA4 := Lib.hid hA4
    have HC4 := Lib.hid hC4
    have HU4 := Lib.hid hU4
    clear hB4 hA4 hC4 hU4
    have HRR : Hid ((RB = true → (M1 : Int) = m ∧ B1 = true ∧ PM.toList.isEmpty = false) ∧ (RB = false → B1 = false ∧ PM.toList.isEmpty = true)) := Lib.hid (by
      refine ⟨fun h => ?_, fun h => ?_⟩
      · rw [HRB.out, Bool.and_eq_true, decide_eq_true_eq, decide_eq_true_eq] at h
        have := HR1.out.1 h
        exact ⟨this.1, this.2.1, this.2.2.1⟩
      · rw [HRB.out, Bool.and_eq_false_iff, decide_eq_false_iff_not, decide_eq_false_iff_not] at h
        have := HR1.out.2 (by omega)
        exact ⟨this.1, by rw [this.2, ByteArray.toList_eq]; rfl⟩)
    go_upto_if 37 with fail
    go_cut [11] (fun s11 wx => s11 = .string PM ∧ Blk wx q3 p.cells 32 ∧ Blk wx q7 PA.cells 32 ∧ Blk wx q9 PB.cells 32 ∧ Upd [] w wx)
    case first =>
      cases RB with
      | true =>
        have HRP := Lib.hid (HR1.out.1 (by have := HRB.out; rw [eq_comm, Bool.and_eq_true, decide_eq_true_eq, decide_eq_true_eq] at this; exact this)).2.2.2
        go_wp2_with fail
        refine (HRP.out _).mono ?_
        rintro e w5 ⟨rfl, hu5⟩
        go_wp2
        go_meet
        exact ⟨rfl, HB4.out.upd hu5 (by simp), HA4.out.upd hu5 (by simp), HC4.out.upd hu5 (by simp), HU4.out.then hu5⟩
      | false =>
        have HPE : Hid (PM = .empty) := Lib.hid (HR1.out.2 (by
          have := HRB.out; rw [eq_comm, Bool.and_eq_false_iff, decide_eq_false_iff_not, decide_eq_false_iff_not] at this; omega)).2
        go_wp2
        go_meet
        exact ⟨by rw [HPE.out]; rfl, HB4.out, HA4.out, HC4.out, HU4.out⟩
    case rest =>
      clear HB4 HA4 HC4 HU4
      obtain ⟨rfl, hB5, hA5, hC5, hU5⟩ := hcut
      have HB5 := Lib.hid hB5
      have HA5 := Lib.hid hA5
      have HC5 := Lib.hid hC5
      have HU5 := Lib.hid hU5
      clear hB5 hA5 hC5 hU5
      go_wp2_with fail
      refine (HM1.out _).mono ?_
      rintro e w6 ⟨rfl, hu6⟩
      have HB6 := Lib.hid (HB5.out.upd hu6 (by simp))
      have HA6 := Lib.hid (HA5.out.upd hu6 (by simp))
      have HC6 := Lib.hid (HC5.out.upd hu6 (by simp))
      have HU6 := Lib.hid (HU5.out.then hu6)
      clear HB5 HA5 HC5 HU5 hu6
      go_wp2_with fail
      refine (HM2.out _).mono ?_
      rintro e w7 ⟨rfl, hu7⟩
      have HB7 := Lib.hid (HB6.out.upd hu7 (by simp))
      have HA7 := Lib.hid (HA6.out.upd hu7 (by simp))
      have HC7 := Lib.hid (HC6.out.upd hu7 (by simp))
      have HU7 := Lib.hid (HU6.out.then hu7)
      clear HB6 HA6 HC6 HU6 hu7
      go_upto_region 9 with fail
      go_cut [90] (fun s90 wx => s90 = .bool false ∧ Blk wx q3 p.cells 32 ∧ Blk wx q9 PB.cells 32 ∧ Upd [] w wx)
      case first =>
        cases FB with
        | true =>
          have HAE : Hid (PA = p) := Lib.hid (HA.out.1 rfl)
          rw [HAE.out] at HA7
          clear HAE HA
          refine wp_region_held_drew (S := fun w' => Blk w' q3 p.cells 32 ∧ Blk w' q7 p.cells 32 ∧ Blk w' q9 PB.cells 32 ∧ Upd [] w w') (by kernel_rfl) ⟨HB7.out, HA7.out, HC7.out, HU7.out.drew⟩ (fun hHeld => ?_)
          change wpAnyH _ _ _ _ _ 41 #[false, false, false, false, false, false, false, false, false, false, false, false, false, false, false, false, false, false, false, false, false, false, false, false, false, false, false, false, false, false, false, false, false, false, false, false, false, false, false, false, false] _ _
          refine heldTake (i := 0) (d := some 50) (v := ?v0_1) rfl rfl (by kernel_rfl) (by kernel_rfl) (by kernel_rfl) (fun _ _ _ h => h) (by rfl) ?hy0_1 (by assumption) ?r0_1
          case hy0_1 => (intro w5 hSw; have hC := hSw.1; unfold PrN.cells at hC; have q0 := hC.cell 0 rfl; have q1 := hC.cell 1 rfl; have q2 := hC.cell 2 rfl; have q3 := hC.cell 3 rfl; have q4 := hC.cell 4 rfl; go_simp; try with_reducible rfl)
          try simp only [Act.put, List.setIfInBounds_toArray, List.set_cons_zero, List.set_cons_succ]
          change wpAnyH _ _ _ _ _ 40 #[true, false, false, false, false, false, false, false, false, false, false, false, false, false, false, false, false, false, false, false, false, false, false, false, false, false, false, false, false, false, false, false, false, false, false, false, false, false, false, false, false] _ _
          refine heldTake (i := 2) (d := some 52) (v := ?v2_2) rfl rfl (by kernel_rfl) (by kernel_rfl) (by kernel_rfl) (fun _ _ _ h => h) (by rfl) ?hy2_2 (by assumption) ?r2_2
          case hy2_2 => (intro w5 hSw; have hC := hSw.1; unfold PrN.cells at hC; have q0 := hC.cell 0 rfl; have q1 := hC.cell 1 rfl; have q2 := hC.cell 2 rfl; have q3 := hC.cell 3 rfl; have q4 := hC.cell 4 rfl; go_simp; try with_reducible rfl)
          try simp only [Act.put, List.setIfInBounds_toArray, List.set_cons_zero, List.set_cons_succ]
          change wpAnyH _ _ _ _ _ 39 #[true, false, true, false, false, false, false, false, false, false, false, false, false, false, false, false, false, false, false, false, false, false, false, false, false, false, false, false, false, false, false, false, false, false, false, false, false, false, false, false, false] _ _
          refine wpAnyH_ready (rs := [1]) (by kernel_rfl) (by simp) ?_
          refine AllReadyH.cons rfl (fun K hK => ?_) AllReadyH.nil
          go_simp
          refine (HFN.out _).mono ?_
          rintro e z1 ⟨rfl, hz1⟩
          go_wp2
          refine hK.out _ _ ⟨hHeld.1.upd hz1 (by simp), hHeld.2.1.upd hz1 (by simp), hHeld.2.2.1.upd hz1 (by simp), hHeld.2.2.2.then hz1⟩ (fun hHeld => ?_)
          clear hK K
          try simp only [Act.put, List.setIfInBounds_toArray, List.set_cons_zero, List.set_cons_succ]
          change wpAnyH _ _ _ _ _ 38 #[true, true, true, false, false, false, false, false, false, false, false, false, false, false, false, false, false, false, false, false, false, false, false, false, false, false, false, false, false, false, false, false, false, false, false, false, false, false, false, false, false] _ _
          refine wpAnyH_ready (rs := [3]) (by kernel_rfl) (by simp) ?_
          refine AllReadyH.cons rfl (fun K hK => ?_) AllReadyH.nil
          go_simp
          refine (HFR.out _).mono ?_
          rintro e z3 ⟨rfl, hz3⟩
          go_wp2
          refine hK.out _ _ ⟨hHeld.1.upd hz3 (by simp), hHeld.2.1.upd hz3 (by simp), hHeld.2.2.1.upd hz3 (by simp), hHeld.2.2.2.then hz3⟩ (fun hHeld => ?_)
          clear hK K
          try simp only [Act.put, List.setIfInBounds_toArray, List.set_cons_zero, List.set_cons_succ]
          change wpAnyH _ _ _ _ _ 37 #[true, true, true, true, false, false, false, false, false, false, false, false, false, false, false, false, false, false, false, false, false, false, false, false, false, false, false, false, false, false, false, false, false, false, false, false, false, false, false, false, false] _ _
          refine heldTake (i := 4) (d := some 54) (v := (.bool false)) rfl rfl (by kernel_rfl) (by kernel_rfl) (by kernel_rfl) (fun _ _ _ h => h) (by rfl) ?hy4_5 (by assumption) ?r4_5
          case hy4_5 => (intro w5 hSw; go_simp; try with_reducible rfl)
          try simp only [Act.put, List.setIfInBounds_toArray, List.set_cons_zero, List.set_cons_succ]
          change wpAnyH _ _ _ _ _ 36 #[true, true, true, true, true, false, false, false, false, false, false, false, false, false, false, false, false, false, false, false, false, false, false, false, false, false, false, false, false, false, false, false, false, false, false, false, false, false, false, false, false] _ _
          refine heldTake (i := 5) (d := some 55) (v := ?v5_6) rfl rfl (by kernel_rfl) (by kernel_rfl) (by kernel_rfl) (fun _ _ _ h => h) (by rfl) ?hy5_6 (by assumption) ?r5_6
          case hy5_6 => (intro w hSw; (try dsimp only at hSw); go_simp; try with_reducible rfl)
          try simp only [Act.put, List.setIfInBounds_toArray, List.set_cons_zero, List.set_cons_succ]
          change wpAnyH _ _ _ _ _ 35 #[true, true, true, true, true, true, false, false, false, false, false, false, false, false, false, false, false, false, false, false, false, false, false, false, false, false, false, false, false, false, false, false, false, false, false, false, false, false, false, false, false] _ _
          refine heldTake (i := 6) (d := some 56) (v := ?v6_7) rfl rfl (by kernel_rfl) (by kernel_rfl) (by kernel_rfl) (fun _ _ _ h => h) (by rfl) ?hy6_7 (by assumption) ?r6_7
          case hy6_7 => (intro w5 hSw; have hC := hSw.1; unfold PrN.cells at hC; have q0 := hC.cell 0 rfl; have q1 := hC.cell 1 rfl; have q2 := hC.cell 2 rfl; have q3 := hC.cell 3 rfl; have q4 := hC.cell 4 rfl; go_simp; try with_reducible rfl)
          try simp only [Act.put, List.setIfInBounds_toArray, List.set_cons_zero, List.set_cons_succ]
          change wpAnyH _ _ _ _ _ 34 #[true, true, true, true, true, true, true, false, false, false, false, false, false, false, false, false, false, false, false, false, false, false, false, false, false, false, false, false, false, false, false, false, false, false, false, false, false, false, false, false, false] _ _
          refine heldTake (i := 8) (d := some 58) (v := ?v8_8) rfl rfl (by kernel_rfl) (by kernel_rfl) (by kernel_rfl) (fun _ _ _ h => h) (by rfl) ?hy8_8 (by assumption) ?r8_8
          case hy8_8 => (intro w5 hSw; have hC := hSw.1; unfold PrN.cells at hC; have q0 := hC.cell 0 rfl; have q1 := hC.cell 1 rfl; have q2 := hC.cell 2 rfl; have q3 := hC.cell 3 rfl; have q4 := hC.cell 4 rfl; go_simp; try with_reducible rfl)
          try simp only [Act.put, List.setIfInBounds_toArray, List.set_cons_zero, List.set_cons_succ]
          change wpAnyH _ _ _ _ _ 33 #[true, true, true, true, true, true, true, false, true, false, false, false, false, false, false, false, false, false, false, false, false, false, false, false, false, false, false, false, false, false, false, false, false, false, false, false, false, false, false, false, false] _ _
          refine wpAnyH_ready (rs := [7]) (by kernel_rfl) (by simp) ?_
          refine AllReadyH.cons rfl (fun K hK => ?_) AllReadyH.nil
          go_simp
          refine (HTN.out _).mono ?_
          rintro e z7 ⟨rfl, hz7⟩
          go_wp2
          refine hK.out _ _ ⟨hHeld.1.upd hz7 (by simp), hHeld.2.1.upd hz7 (by simp), hHeld.2.2.1.upd hz7 (by simp), hHeld.2.2.2.then hz7⟩ (fun hHeld => ?_)
          clear hK K
          try simp only [Act.put, List.setIfInBounds_toArray, List.set_cons_zero, List.set_cons_succ]
          change wpAnyH _ _ _ _ _ 32 #[true, true, true, true, true, true, true, true, true, false, false, false, false, false, false, false, false, false, false, false, false, false, false, false, false, false, false, false, false, false, false, false, false, false, false, false, false, false, false, false, false] _ _
          refine wpAnyH_ready (rs := [9]) (by kernel_rfl) (by simp) ?_
          refine AllReadyH.cons rfl (fun K hK => ?_) AllReadyH.nil
          go_simp
          refine (HTR.out _).mono ?_
          rintro e z9 ⟨rfl, hz9⟩
          go_wp2
          refine hK.out _ _ ⟨hHeld.1.upd hz9 (by simp), hHeld.2.1.upd hz9 (by simp), hHeld.2.2.1.upd hz9 (by simp), hHeld.2.2.2.then hz9⟩ (fun hHeld => ?_)
          clear hK K
          try simp only [Act.put, List.setIfInBounds_toArray, List.set_cons_zero, List.set_cons_succ]
          change wpAnyH _ _ _ _ _ 31 #[true, true, true, true, true, true, true, true, true, true, false, false, false, false, false, false, false, false, false, false, false, false, false, false, false, false, false, false, false, false, false, false, false, false, false, false, false, false, false, false, false] _ _
          refine heldTake (i := 10) (d := some 60) (v := (.bool false)) rfl rfl (by kernel_rfl) (by kernel_rfl) (by kernel_rfl) (fun _ _ _ h => h) (by rfl) ?hy10_11 (by assumption) ?r10_11
          case hy10_11 => (intro w5 hSw; go_simp; try with_reducible rfl)
          try simp only [Act.put, List.setIfInBounds_toArray, List.set_cons_zero, List.set_cons_succ]
          change wpAnyH _ _ _ _ _ 30 #[true, true, true, true, true, true, true, true, true, true, true, false, false, false, false, false, false, false, false, false, false, false, false, false, false, false, false, false, false, false, false, false, false, false, false, false, false, false, false, false, false] _ _
          refine heldTake (i := 11) (d := some 61) (v := ?v11_12) rfl rfl (by kernel_rfl) (by kernel_rfl) (by kernel_rfl) (fun _ _ _ h => h) (by rfl) ?hy11_12 (by assumption) ?r11_12
          case hy11_12 => (intro w hSw; (try dsimp only at hSw); go_simp; try with_reducible rfl)
          try simp only [Act.put, List.setIfInBounds_toArray, List.set_cons_zero, List.set_cons_succ]
          change wpAnyH _ _ _ _ _ 29 #[true, true, true, true, true, true, true, true, true, true, true, true, false, false, false, false, false, false, false, false, false, false, false, false, false, false, false, false, false, false, false, false, false, false, false, false, false, false, false, false, false] _ _
          refine heldTake (i := 12) (d := some 62) (v := ?v12_13) rfl rfl (by kernel_rfl) (by kernel_rfl) (by kernel_rfl) (fun _ _ _ h => h) (by rfl) ?hy12_13 (by assumption) ?r12_13
          case hy12_13 => (intro w hSw; (try dsimp only at hSw); go_simp; try with_reducible rfl)
          try simp only [Act.put, List.setIfInBounds_toArray, List.set_cons_zero, List.set_cons_succ]
          change wpAnyH _ _ _ _ _ 28 #[true, true, true, true, true, true, true, true, true, true, true, true, true, false, false, false, false, false, false, false, false, false, false, false, false, false, false, false, false, false, false, false, false, false, false, false, false, false, false, false, false] _ _
          refine heldTake (i := 13) (d := some 63) (v := ?v13_14) rfl rfl (by kernel_rfl) (by kernel_rfl) (by kernel_rfl) (fun _ _ _ h => h) (by rfl) ?hy13_14 (by assumption) ?r13_14
          case hy13_14 => (intro w hSw; (try dsimp only at hSw); go_simp; try with_reducible rfl)
          try simp only [Act.put, List.setIfInBounds_toArray, List.set_cons_zero, List.set_cons_succ]
          change wpAnyH _ _ _ _ _ 27 #[true, true, true, true, true, true, true, true, true, true, true, true, true, true, false, false, false, false, false, false, false, false, false, false, false, false, false, false, false, false, false, false, false, false, false, false, false, false, false, false, false] _ _
          refine heldTake (i := 15) (d := some 65) (v := ?v15_15) rfl rfl (by kernel_rfl) (by kernel_rfl) (by kernel_rfl) (fun _ _ _ h => h) (by rfl) ?hy15_15 (by assumption) ?r15_15
          case hy15_15 => (intro w hSw; (try dsimp only at hSw); go_simp; try with_reducible rfl)
          try simp only [Act.put, List.setIfInBounds_toArray, List.set_cons_zero, List.set_cons_succ]
          change wpAnyH _ _ _ _ _ 26 #[true, true, true, true, true, true, true, true, true, true, true, true, true, true, false, true, false, false, false, false, false, false, false, false, false, false, false, false, false, false, false, false, false, false, false, false, false, false, false, false, false] _ _
          refine wpAnyH_ready (rs := [14]) (by kernel_rfl) (by simp) ?_
          refine AllReadyH.cons rfl (fun K hK => ?_) AllReadyH.nil
          go_simp
          refine (HPI.out _).mono ?_
          rintro e z14 ⟨rfl, hz14⟩
          go_wp2
          refine hK.out _ _ ⟨hHeld.1.upd hz14 (by simp), hHeld.2.1.upd hz14 (by simp), hHeld.2.2.1.upd hz14 (by simp), hHeld.2.2.2.then hz14⟩ (fun hHeld => ?_)
          clear hK K
          try simp only [Act.put, List.setIfInBounds_toArray, List.set_cons_zero, List.set_cons_succ]
          change wpAnyH _ _ _ _ _ 25 #[true, true, true, true, true, true, true, true, true, true, true, true, true, true, true, true, false, false, false, false, false, false, false, false, false, false, false, false, false, false, false, false, false, false, false, false, false, false, false, false, false] _ _
          refine heldTake (i := 16) (d := some 66) (v := (.bool false)) rfl rfl (by kernel_rfl) (by kernel_rfl) (by kernel_rfl) (fun _ _ _ h => h) (by rfl) ?hy16_17 (by assumption) ?r16_17
          case hy16_17 => (intro w5 hSw; go_simp; try with_reducible rfl)
          try simp only [Act.put, List.setIfInBounds_toArray, List.set_cons_zero, List.set_cons_succ]
          change wpAnyH _ _ _ _ _ 24 #[true, true, true, true, true, true, true, true, true, true, true, true, true, true, true, true, true, false, false, false, false, false, false, false, false, false, false, false, false, false, false, false, false, false, false, false, false, false, false, false, false] _ _
          refine heldTake (i := 17) (d := some 67) (v := ?v17_18) rfl rfl (by kernel_rfl) (by kernel_rfl) (by kernel_rfl) (fun _ _ _ h => h) (by rfl) ?hy17_18 (by assumption) ?r17_18
          case hy17_18 => (intro w hSw; (try dsimp only at hSw); go_simp; try with_reducible rfl)
          try simp only [Act.put, List.setIfInBounds_toArray, List.set_cons_zero, List.set_cons_succ]
          change wpAnyH _ _ _ _ _ 23 #[true, true, true, true, true, true, true, true, true, true, true, true, true, true, true, true, true, true, false, false, false, false, false, false, false, false, false, false, false, false, false, false, false, false, false, false, false, false, false, false, false] _ _
          refine heldTake (i := 18) (d := some 68) (v := ?v18_19) rfl rfl (by kernel_rfl) (by kernel_rfl) (by kernel_rfl) (fun _ _ _ h => h) (by rfl) ?hy18_19 (by assumption) ?r18_19
          case hy18_19 => (intro w hSw; (try dsimp only at hSw); go_simp; try with_reducible rfl)
          try simp only [Act.put, List.setIfInBounds_toArray, List.set_cons_zero, List.set_cons_succ]
          change wpAnyH _ _ _ _ _ 22 #[true, true, true, true, true, true, true, true, true, true, true, true, true, true, true, true, true, true, true, false, false, false, false, false, false, false, false, false, false, false, false, false, false, false, false, false, false, false, false, false, false] _ _
          refine heldTake (i := 19) (d := some 69) (v := ?v19_20) rfl rfl (by kernel_rfl) (by kernel_rfl) (by kernel_rfl) (fun _ _ _ h => h) (by rfl) ?hy19_20 (by assumption) ?r19_20
          case hy19_20 => (intro w hSw; (try dsimp only at hSw); go_simp; try with_reducible rfl)
          try simp only [Act.put, List.setIfInBounds_toArray, List.set_cons_zero, List.set_cons_succ]
          change wpAnyH _ _ _ _ _ 21 #[true, true, true, true, true, true, true, true, true, true, true, true, true, true, true, true, true, true, true, true, false, false, false, false, false, false, false, false, false, false, false, false, false, false, false, false, false, false, false, false, false] _ _
          refine heldTake (i := 20) (d := some 70) (v := ?v20_21) rfl rfl (by kernel_rfl) (by kernel_rfl) (by kernel_rfl) (fun _ _ _ h => h) (by rfl) ?hy20_21 (by assumption) ?r20_21
          case hy20_21 => (intro w5 hSw; have hC := hSw.1; unfold PrN.cells at hC; have q0 := hC.cell 0 rfl; have q1 := hC.cell 1 rfl; have q2 := hC.cell 2 rfl; have q3 := hC.cell 3 rfl; have q4 := hC.cell 4 rfl; go_simp; try with_reducible rfl)
          try simp only [Act.put, List.setIfInBounds_toArray, List.set_cons_zero, List.set_cons_succ]
          change wpAnyH _ _ _ _ _ 20 #[true, true, true, true, true, true, true, true, true, true, true, true, true, true, true, true, true, true, true, true, true, false, false, false, false, false, false, false, false, false, false, false, false, false, false, false, false, false, false, false, false] _ _
          refine wpAnyH_ready (rs := [21]) (by kernel_rfl) (by simp) ?_
          refine AllReadyH.cons rfl (fun K hK => ?_) AllReadyH.nil
          go_simp
          refine (HFR.out _).mono ?_
          rintro e z21 ⟨rfl, hz21⟩
          go_wp2
          refine hK.out _ _ ⟨hHeld.1.upd hz21 (by simp), hHeld.2.1.upd hz21 (by simp), hHeld.2.2.1.upd hz21 (by simp), hHeld.2.2.2.then hz21⟩ (fun hHeld => ?_)
          clear hK K
          try simp only [Act.put, List.setIfInBounds_toArray, List.set_cons_zero, List.set_cons_succ]
          change wpAnyH _ _ _ _ _ 19 #[true, true, true, true, true, true, true, true, true, true, true, true, true, true, true, true, true, true, true, true, true, true, false, false, false, false, false, false, false, false, false, false, false, false, false, false, false, false, false, false, false] _ _
          refine heldTake (i := 22) (d := some 72) (v := (.bool false)) rfl rfl (by kernel_rfl) (by kernel_rfl) (by kernel_rfl) (fun _ _ _ h => h) (by rfl) ?hy22_23 (by assumption) ?r22_23
          case hy22_23 => (intro w5 hSw; go_simp; try with_reducible rfl)
          try simp only [Act.put, List.setIfInBounds_toArray, List.set_cons_zero, List.set_cons_succ]
          change wpAnyH _ _ _ _ _ 18 #[true, true, true, true, true, true, true, true, true, true, true, true, true, true, true, true, true, true, true, true, true, true, true, false, false, false, false, false, false, false, false, false, false, false, false, false, false, false, false, false, false] _ _
          refine heldTake (i := 23) (d := some 73) (v := ?v23_24) rfl rfl (by kernel_rfl) (by kernel_rfl) (by kernel_rfl) (fun _ _ _ h => h) (by rfl) ?hy23_24 (by assumption) ?r23_24
          case hy23_24 => (intro w hSw; (try dsimp only at hSw); go_simp; try with_reducible rfl)
          try simp only [Act.put, List.setIfInBounds_toArray, List.set_cons_zero, List.set_cons_succ]
          change wpAnyH _ _ _ _ _ 17 #[true, true, true, true, true, true, true, true, true, true, true, true, true, true, true, true, true, true, true, true, true, true, true, true, false, false, false, false, false, false, false, false, false, false, false, false, false, false, false, false, false] _ _
          refine heldTake (i := 24) (d := some 74) (v := ?v24_25) rfl rfl (by kernel_rfl) (by kernel_rfl) (by kernel_rfl) (fun _ _ _ h => h) (by rfl) ?hy24_25 (by assumption) ?r24_25
          case hy24_25 => (intro w hSw; (try dsimp only at hSw); go_simp; try with_reducible rfl)
          try simp only [Act.put, List.setIfInBounds_toArray, List.set_cons_zero, List.set_cons_succ]
          change wpAnyH _ _ _ _ _ 16 #[true, true, true, true, true, true, true, true, true, true, true, true, true, true, true, true, true, true, true, true, true, true, true, true, true, false, false, false, false, false, false, false, false, false, false, false, false, false, false, false, false] _ _
          refine heldTake (i := 25) (d := some 75) (v := ?v25_26) rfl rfl (by kernel_rfl) (by kernel_rfl) (by kernel_rfl) (fun _ _ _ h => h) (by rfl) ?hy25_26 (by assumption) ?r25_26
          case hy25_26 => (intro w hSw; (try dsimp only at hSw); go_simp; try with_reducible rfl)
          try simp only [Act.put, List.setIfInBounds_toArray, List.set_cons_zero, List.set_cons_succ]
          change wpAnyH _ _ _ _ _ 15 #[true, true, true, true, true, true, true, true, true, true, true, true, true, true, true, true, true, true, true, true, true, true, true, true, true, true, false, false, false, false, false, false, false, false, false, false, false, false, false, false, false] _ _
          refine heldTake (i := 26) (d := some 76) (v := ?v26_27) rfl rfl (by kernel_rfl) (by kernel_rfl) (by kernel_rfl) (fun _ _ _ h => h) (by rfl) ?hy26_27 (by assumption) ?r26_27
          case hy26_27 => (intro w hSw; (try dsimp only at hSw); go_simp; try with_reducible rfl)
          try simp only [Act.put, List.setIfInBounds_toArray, List.set_cons_zero, List.set_cons_succ]
          change wpAnyH _ _ _ _ _ 14 #[true, true, true, true, true, true, true, true, true, true, true, true, true, true, true, true, true, true, true, true, true, true, true, true, true, true, true, false, false, false, false, false, false, false, false, false, false, false, false, false, false] _ _
          refine heldTake (i := 27) (d := some 77) (v := ?v27_28) rfl rfl (by kernel_rfl) (by kernel_rfl) (by kernel_rfl) (fun _ _ _ h => h) (by rfl) ?hy27_28 (by assumption) ?r27_28
          case hy27_28 => (intro w5 hSw; have hC := hSw.2.1; unfold PrN.cells at hC; have q0 := hC.cell 0 rfl; have q1 := hC.cell 1 rfl; have q2 := hC.cell 2 rfl; have q3 := hC.cell 3 rfl; have q4 := hC.cell 4 rfl; go_simp; try with_reducible rfl)
          try simp only [Act.put, List.setIfInBounds_toArray, List.set_cons_zero, List.set_cons_succ]
          change wpAnyH _ _ _ _ _ 13 #[true, true, true, true, true, true, true, true, true, true, true, true, true, true, true, true, true, true, true, true, true, true, true, true, true, true, true, true, false, false, false, false, false, false, false, false, false, false, false, false, false] _ _
          refine heldTake (i := 28) (d := some 78) (v := ?v28_29) rfl rfl (by kernel_rfl) (by kernel_rfl) (by kernel_rfl) (fun _ _ _ h => h) (by rfl) ?hy28_29 (by assumption) ?r28_29
          case hy28_29 => (intro w5 hSw; have hC := hSw.1; unfold PrN.cells at hC; have q0 := hC.cell 0 rfl; have q1 := hC.cell 1 rfl; have q2 := hC.cell 2 rfl; have q3 := hC.cell 3 rfl; have q4 := hC.cell 4 rfl; go_simp; try with_reducible rfl)
          try simp only [Act.put, List.setIfInBounds_toArray, List.set_cons_zero, List.set_cons_succ]
          change wpAnyH _ _ _ _ _ 12 #[true, true, true, true, true, true, true, true, true, true, true, true, true, true, true, true, true, true, true, true, true, true, true, true, true, true, true, true, true, false, false, false, false, false, false, false, false, false, false, false, false] _ _
          refine heldTake (i := 29) (d := some 79) (v := (.bool false)) rfl rfl (by kernel_rfl) (by kernel_rfl) (by kernel_rfl) (fun _ _ _ h => h) (by rfl) ?hy29_30 (by assumption) ?r29_30
          case hy29_30 => (intro w5 hSw; exact neqPrint (by rfl) p.k p.m (p.t : Int) p.s (p.c : Int) (by rfl) (by rfl) w5)
          try simp only [Act.put, List.setIfInBounds_toArray, List.set_cons_zero, List.set_cons_succ]
          change wpAnyH _ _ _ _ _ 11 #[true, true, true, true, true, true, true, true, true, true, true, true, true, true, true, true, true, true, true, true, true, true, true, true, true, true, true, true, true, true, false, false, false, false, false, false, false, false, false, false, false] _ _
          refine heldTake (i := 30) (d := some 80) (v := ?v30_31) rfl rfl (by kernel_rfl) (by kernel_rfl) (by kernel_rfl) (fun _ _ _ h => h) (by rfl) ?hy30_31 (by assumption) ?r30_31
          case hy30_31 => (intro w hSw; (try dsimp only at hSw); go_simp; try with_reducible rfl)
          try simp only [Act.put, List.setIfInBounds_toArray, List.set_cons_zero, List.set_cons_succ]
          change wpAnyH _ _ _ _ _ 10 #[true, true, true, true, true, true, true, true, true, true, true, true, true, true, true, true, true, true, true, true, true, true, true, true, true, true, true, true, true, true, true, false, false, false, false, false, false, false, false, false, false] _ _
          refine heldTake (i := 31) (d := some 81) (v := ?v31_32) rfl rfl (by kernel_rfl) (by kernel_rfl) (by kernel_rfl) (fun _ _ _ h => h) (by rfl) ?hy31_32 (by assumption) ?r31_32
          case hy31_32 => (intro w hSw; (try dsimp only at hSw); go_simp; try with_reducible rfl)
          try simp only [Act.put, List.setIfInBounds_toArray, List.set_cons_zero, List.set_cons_succ]
          change wpAnyH _ _ _ _ _ 9 #[true, true, true, true, true, true, true, true, true, true, true, true, true, true, true, true, true, true, true, true, true, true, true, true, true, true, true, true, true, true, true, true, false, false, false, false, false, false, false, false, false] _ _
          refine heldTake (i := 32) (d := some 82) (v := ?v32_33) rfl rfl (by kernel_rfl) (by kernel_rfl) (by kernel_rfl) (fun _ _ _ h => h) (by rfl) ?hy32_33 (by assumption) ?r32_33
          case hy32_33 => (intro w hSw; (try dsimp only at hSw); go_simp; try with_reducible rfl)
          try simp only [Act.put, List.setIfInBounds_toArray, List.set_cons_zero, List.set_cons_succ]
          change wpAnyH _ _ _ _ _ 8 #[true, true, true, true, true, true, true, true, true, true, true, true, true, true, true, true, true, true, true, true, true, true, true, true, true, true, true, true, true, true, true, true, true, false, false, false, false, false, false, false, false] _ _
          refine heldTake (i := 33) (d := some 83) (v := ?v33_34) rfl rfl (by kernel_rfl) (by kernel_rfl) (by kernel_rfl) (fun _ _ _ h => h) (by rfl) ?hy33_34 (by assumption) ?r33_34
          case hy33_34 => (intro w hSw; (try dsimp only at hSw); go_simp; try with_reducible rfl)
          try simp only [Act.put, List.setIfInBounds_toArray, List.set_cons_zero, List.set_cons_succ]
          change wpAnyH _ _ _ _ _ 7 #[true, true, true, true, true, true, true, true, true, true, true, true, true, true, true, true, true, true, true, true, true, true, true, true, true, true, true, true, true, true, true, true, true, true, false, false, false, false, false, false, false] _ _
          refine heldTake (i := 34) (d := some 84) (v := ?v34_35) rfl rfl (by kernel_rfl) (by kernel_rfl) (by kernel_rfl) (fun _ _ _ h => h) (by rfl) ?hy34_35 (by assumption) ?r34_35
          case hy34_35 => (intro w hSw; (try dsimp only at hSw); go_simp; try with_reducible rfl)
          try simp only [Act.put, List.setIfInBounds_toArray, List.set_cons_zero, List.set_cons_succ]
          change wpAnyH _ _ _ _ _ 6 #[true, true, true, true, true, true, true, true, true, true, true, true, true, true, true, true, true, true, true, true, true, true, true, true, true, true, true, true, true, true, true, true, true, true, true, false, false, false, false, false, false] _ _
          refine heldTake (i := 35) (d := some 85) (v := ?v35_36) rfl rfl (by kernel_rfl) (by kernel_rfl) (by kernel_rfl) (fun _ _ _ h => h) (by rfl) ?hy35_36 (by assumption) ?r35_36
          case hy35_36 => (intro w hSw; (try dsimp only at hSw); go_simp; try with_reducible rfl)
          try simp only [Act.put, List.setIfInBounds_toArray, List.set_cons_zero, List.set_cons_succ]
          change wpAnyH _ _ _ _ _ 5 #[true, true, true, true, true, true, true, true, true, true, true, true, true, true, true, true, true, true, true, true, true, true, true, true, true, true, true, true, true, true, true, true, true, true, true, true, false, false, false, false, false] _ _
          refine heldSkip (i := 36) (d := some 86) rfl rfl (by kernel_rfl) (by kernel_rfl) (by kernel_rfl) (fun _ _ _ h => h) (by rfl) (by assumption) ?r36_37
          try simp only [Act.put, List.setIfInBounds_toArray, List.set_cons_zero, List.set_cons_succ]
          change wpAnyH _ _ _ _ _ 4 #[true, true, true, true, true, true, true, true, true, true, true, true, true, true, true, true, true, true, true, true, true, true, true, true, true, true, true, true, true, true, true, true, true, true, true, true, true, false, false, false, false] _ _
          refine heldSkip (i := 37) (d := some 87) rfl rfl (by kernel_rfl) (by kernel_rfl) (by kernel_rfl) (fun _ _ _ h => h) (by rfl) (by assumption) ?r37_38
          try simp only [Act.put, List.setIfInBounds_toArray, List.set_cons_zero, List.set_cons_succ]
          change wpAnyH _ _ _ _ _ 3 #[true, true, true, true, true, true, true, true, true, true, true, true, true, true, true, true, true, true, true, true, true, true, true, true, true, true, true, true, true, true, true, true, true, true, true, true, true, true, false, false, false] _ _
          refine heldSkip (i := 38) (d := some 88) rfl rfl (by kernel_rfl) (by kernel_rfl) (by kernel_rfl) (fun _ _ _ h => h) (by rfl) (by assumption) ?r38_39
          try simp only [Act.put, List.setIfInBounds_toArray, List.set_cons_zero, List.set_cons_succ]
          change wpAnyH _ _ _ _ _ 2 #[true, true, true, true, true, true, true, true, true, true, true, true, true, true, true, true, true, true, true, true, true, true, true, true, true, true, true, true, true, true, true, true, true, true, true, true, true, true, true, false, false] _ _
          refine heldTake (i := 39) (d := some 89) (v := ?v39_40) rfl rfl (by kernel_rfl) (by kernel_rfl) (by kernel_rfl) (fun _ _ _ h => h) (by rfl) ?hy39_40 (by assumption) ?r39_40
          case hy39_40 => (intro w hSw; (try dsimp only at hSw); go_simp; try with_reducible rfl)
          try simp only [Act.put, List.setIfInBounds_toArray, List.set_cons_zero, List.set_cons_succ]
          change wpAnyH _ _ _ _ _ 1 #[true, true, true, true, true, true, true, true, true, true, true, true, true, true, true, true, true, true, true, true, true, true, true, true, true, true, true, true, true, true, true, true, true, true, true, true, true, true, true, true, false] _ _
          refine heldTake (i := 40) (d := some 90) (v := ?v40_41) rfl rfl (by kernel_rfl) (by kernel_rfl) (by kernel_rfl) (fun _ _ _ h => h) (by rfl) ?hy40_41 (by assumption) ?r40_41
          case hy40_41 => (intro w hSw; (try dsimp only at hSw); go_simp; try with_reducible rfl)
          try simp only [Act.put, List.setIfInBounds_toArray, List.set_cons_zero, List.set_cons_succ]
          change wpAnyH _ _ _ _ _ 0 #[true, true, true, true, true, true, true, true, true, true, true, true, true, true, true, true, true, true, true, true, true, true, true, true, true, true, true, true, true, true, true, true, true, true, true, true, true, true, true, true, true] _ _
          refine wpAnyH_done (by kernel_rfl) ?_ 0
          go_wp2
          go_meet
          exact ⟨rfl, hHeld.1, hHeld.2.2.1, hHeld.2.2.2⟩
        | false =>
          have HAE : Hid (PA = PrN.no) := Lib.hid (HA.out.2 rfl)
          rw [HAE.out] at HA7
          clear HAE HA
          refine wp_region_held_drew (S := fun w' => Blk w' q3 p.cells 32 ∧ Blk w' q7 PrN.no.cells 32 ∧ Blk w' q9 PB.cells 32 ∧ Upd [] w w') (by kernel_rfl) ⟨HB7.out, HA7.out, HC7.out, HU7.out.drew⟩ (fun hHeld => ?_)
          change wpAnyH _ _ _ _ _ 41 #[false, false, false, false, false, false, false, false, false, false, false, false, false, false, false, false, false, false, false, false, false, false, false, false, false, false, false, false, false, false, false, false, false, false, false, false, false, false, false, false, false] _ _
          refine heldTake (i := 0) (d := some 50) (v := ?v0_42) rfl rfl (by kernel_rfl) (by kernel_rfl) (by kernel_rfl) (fun _ _ _ h => h) (by rfl) ?hy0_42 (by assumption) ?r0_42
          case hy0_42 => (intro w5 hSw; have hC := hSw.1; unfold PrN.cells at hC; have q0 := hC.cell 0 rfl; have q1 := hC.cell 1 rfl; have q2 := hC.cell 2 rfl; have q3 := hC.cell 3 rfl; have q4 := hC.cell 4 rfl; go_simp; try with_reducible rfl)
          try simp only [Act.put, List.setIfInBounds_toArray, List.set_cons_zero, List.set_cons_succ]
          change wpAnyH _ _ _ _ _ 40 #[true, false, false, false, false, false, false, false, false, false, false, false, false, false, false, false, false, false, false, false, false, false, false, false, false, false, false, false, false, false, false, false, false, false, false, false, false, false, false, false, false] _ _
          refine heldTake (i := 2) (d := some 52) (v := ?v2_43) rfl rfl (by kernel_rfl) (by kernel_rfl) (by kernel_rfl) (fun _ _ _ h => h) (by rfl) ?hy2_43 (by assumption) ?r2_43
          case hy2_43 => (intro w5 hSw; have hC := hSw.1; unfold PrN.cells at hC; have q0 := hC.cell 0 rfl; have q1 := hC.cell 1 rfl; have q2 := hC.cell 2 rfl; have q3 := hC.cell 3 rfl; have q4 := hC.cell 4 rfl; go_simp; try with_reducible rfl)
          try simp only [Act.put, List.setIfInBounds_toArray, List.set_cons_zero, List.set_cons_succ]
          change wpAnyH _ _ _ _ _ 39 #[true, false, true, false, false, false, false, false, false, false, false, false, false, false, false, false, false, false, false, false, false, false, false, false, false, false, false, false, false, false, false, false, false, false, false, false, false, false, false, false, false] _ _
          refine wpAnyH_ready (rs := [1]) (by kernel_rfl) (by simp) ?_
          refine AllReadyH.cons rfl (fun K hK => ?_) AllReadyH.nil
          go_simp
          refine (HFN.out _).mono ?_
          rintro e z1 ⟨rfl, hz1⟩
          go_wp2
          refine hK.out _ _ ⟨hHeld.1.upd hz1 (by simp), hHeld.2.1.upd hz1 (by simp), hHeld.2.2.1.upd hz1 (by simp), hHeld.2.2.2.then hz1⟩ (fun hHeld => ?_)
          clear hK K
          try simp only [Act.put, List.setIfInBounds_toArray, List.set_cons_zero, List.set_cons_succ]
          change wpAnyH _ _ _ _ _ 38 #[true, true, true, false, false, false, false, false, false, false, false, false, false, false, false, false, false, false, false, false, false, false, false, false, false, false, false, false, false, false, false, false, false, false, false, false, false, false, false, false, false] _ _
          refine wpAnyH_ready (rs := [3]) (by kernel_rfl) (by simp) ?_
          refine AllReadyH.cons rfl (fun K hK => ?_) AllReadyH.nil
          go_simp
          refine (HFR.out _).mono ?_
          rintro e z3 ⟨rfl, hz3⟩
          go_wp2
          refine hK.out _ _ ⟨hHeld.1.upd hz3 (by simp), hHeld.2.1.upd hz3 (by simp), hHeld.2.2.1.upd hz3 (by simp), hHeld.2.2.2.then hz3⟩ (fun hHeld => ?_)
          clear hK K
          try simp only [Act.put, List.setIfInBounds_toArray, List.set_cons_zero, List.set_cons_succ]
          change wpAnyH _ _ _ _ _ 37 #[true, true, true, true, false, false, false, false, false, false, false, false, false, false, false, false, false, false, false, false, false, false, false, false, false, false, false, false, false, false, false, false, false, false, false, false, false, false, false, false, false] _ _
          refine heldTake (i := 4) (d := some 54) (v := (.bool false)) rfl rfl (by kernel_rfl) (by kernel_rfl) (by kernel_rfl) (fun _ _ _ h => h) (by rfl) ?hy4_46 (by assumption) ?r4_46
          case hy4_46 => (intro w5 hSw; go_simp; try with_reducible rfl)
          try simp only [Act.put, List.setIfInBounds_toArray, List.set_cons_zero, List.set_cons_succ]
          change wpAnyH _ _ _ _ _ 36 #[true, true, true, true, true, false, false, false, false, false, false, false, false, false, false, false, false, false, false, false, false, false, false, false, false, false, false, false, false, false, false, false, false, false, false, false, false, false, false, false, false] _ _
          refine heldTake (i := 5) (d := some 55) (v := ?v5_47) rfl rfl (by kernel_rfl) (by kernel_rfl) (by kernel_rfl) (fun _ _ _ h => h) (by rfl) ?hy5_47 (by assumption) ?r5_47
          case hy5_47 => (intro w hSw; (try dsimp only at hSw); go_simp; try with_reducible rfl)
          try simp only [Act.put, List.setIfInBounds_toArray, List.set_cons_zero, List.set_cons_succ]
          change wpAnyH _ _ _ _ _ 35 #[true, true, true, true, true, true, false, false, false, false, false, false, false, false, false, false, false, false, false, false, false, false, false, false, false, false, false, false, false, false, false, false, false, false, false, false, false, false, false, false, false] _ _
          refine heldTake (i := 6) (d := some 56) (v := ?v6_48) rfl rfl (by kernel_rfl) (by kernel_rfl) (by kernel_rfl) (fun _ _ _ h => h) (by rfl) ?hy6_48 (by assumption) ?r6_48
          case hy6_48 => (intro w5 hSw; have hC := hSw.1; unfold PrN.cells at hC; have q0 := hC.cell 0 rfl; have q1 := hC.cell 1 rfl; have q2 := hC.cell 2 rfl; have q3 := hC.cell 3 rfl; have q4 := hC.cell 4 rfl; go_simp; try with_reducible rfl)
          try simp only [Act.put, List.setIfInBounds_toArray, List.set_cons_zero, List.set_cons_succ]
          change wpAnyH _ _ _ _ _ 34 #[true, true, true, true, true, true, true, false, false, false, false, false, false, false, false, false, false, false, false, false, false, false, false, false, false, false, false, false, false, false, false, false, false, false, false, false, false, false, false, false, false] _ _
          refine heldTake (i := 8) (d := some 58) (v := ?v8_49) rfl rfl (by kernel_rfl) (by kernel_rfl) (by kernel_rfl) (fun _ _ _ h => h) (by rfl) ?hy8_49 (by assumption) ?r8_49
          case hy8_49 => (intro w5 hSw; have hC := hSw.1; unfold PrN.cells at hC; have q0 := hC.cell 0 rfl; have q1 := hC.cell 1 rfl; have q2 := hC.cell 2 rfl; have q3 := hC.cell 3 rfl; have q4 := hC.cell 4 rfl; go_simp; try with_reducible rfl)
          try simp only [Act.put, List.setIfInBounds_toArray, List.set_cons_zero, List.set_cons_succ]
          change wpAnyH _ _ _ _ _ 33 #[true, true, true, true, true, true, true, false, true, false, false, false, false, false, false, false, false, false, false, false, false, false, false, false, false, false, false, false, false, false, false, false, false, false, false, false, false, false, false, false, false] _ _
          refine wpAnyH_ready (rs := [7]) (by kernel_rfl) (by simp) ?_
          refine AllReadyH.cons rfl (fun K hK => ?_) AllReadyH.nil
          go_simp
          refine (HTN.out _).mono ?_
          rintro e z7 ⟨rfl, hz7⟩
          go_wp2
          refine hK.out _ _ ⟨hHeld.1.upd hz7 (by simp), hHeld.2.1.upd hz7 (by simp), hHeld.2.2.1.upd hz7 (by simp), hHeld.2.2.2.then hz7⟩ (fun hHeld => ?_)
          clear hK K
          try simp only [Act.put, List.setIfInBounds_toArray, List.set_cons_zero, List.set_cons_succ]
          change wpAnyH _ _ _ _ _ 32 #[true, true, true, true, true, true, true, true, true, false, false, false, false, false, false, false, false, false, false, false, false, false, false, false, false, false, false, false, false, false, false, false, false, false, false, false, false, false, false, false, false] _ _
          refine wpAnyH_ready (rs := [9]) (by kernel_rfl) (by simp) ?_
          refine AllReadyH.cons rfl (fun K hK => ?_) AllReadyH.nil
          go_simp
          refine (HTR.out _).mono ?_
          rintro e z9 ⟨rfl, hz9⟩
          go_wp2
          refine hK.out _ _ ⟨hHeld.1.upd hz9 (by simp), hHeld.2.1.upd hz9 (by simp), hHeld.2.2.1.upd hz9 (by simp), hHeld.2.2.2.then hz9⟩ (fun hHeld => ?_)
          clear hK K
          try simp only [Act.put, List.setIfInBounds_toArray, List.set_cons_zero, List.set_cons_succ]
          change wpAnyH _ _ _ _ _ 31 #[true, true, true, true, true, true, true, true, true, true, false, false, false, false, false, false, false, false, false, false, false, false, false, false, false, false, false, false, false, false, false, false, false, false, false, false, false, false, false, false, false] _ _
          refine heldTake (i := 10) (d := some 60) (v := (.bool false)) rfl rfl (by kernel_rfl) (by kernel_rfl) (by kernel_rfl) (fun _ _ _ h => h) (by rfl) ?hy10_52 (by assumption) ?r10_52
          case hy10_52 => (intro w5 hSw; go_simp; try with_reducible rfl)
          try simp only [Act.put, List.setIfInBounds_toArray, List.set_cons_zero, List.set_cons_succ]
          change wpAnyH _ _ _ _ _ 30 #[true, true, true, true, true, true, true, true, true, true, true, false, false, false, false, false, false, false, false, false, false, false, false, false, false, false, false, false, false, false, false, false, false, false, false, false, false, false, false, false, false] _ _
          refine heldTake (i := 11) (d := some 61) (v := ?v11_53) rfl rfl (by kernel_rfl) (by kernel_rfl) (by kernel_rfl) (fun _ _ _ h => h) (by rfl) ?hy11_53 (by assumption) ?r11_53
          case hy11_53 => (intro w hSw; (try dsimp only at hSw); go_simp; try with_reducible rfl)
          try simp only [Act.put, List.setIfInBounds_toArray, List.set_cons_zero, List.set_cons_succ]
          change wpAnyH _ _ _ _ _ 29 #[true, true, true, true, true, true, true, true, true, true, true, true, false, false, false, false, false, false, false, false, false, false, false, false, false, false, false, false, false, false, false, false, false, false, false, false, false, false, false, false, false] _ _
          refine heldTake (i := 12) (d := some 62) (v := ?v12_54) rfl rfl (by kernel_rfl) (by kernel_rfl) (by kernel_rfl) (fun _ _ _ h => h) (by rfl) ?hy12_54 (by assumption) ?r12_54
          case hy12_54 => (intro w hSw; (try dsimp only at hSw); go_simp; try with_reducible rfl)
          try simp only [Act.put, List.setIfInBounds_toArray, List.set_cons_zero, List.set_cons_succ]
          change wpAnyH _ _ _ _ _ 28 #[true, true, true, true, true, true, true, true, true, true, true, true, true, false, false, false, false, false, false, false, false, false, false, false, false, false, false, false, false, false, false, false, false, false, false, false, false, false, false, false, false] _ _
          refine heldTake (i := 13) (d := some 63) (v := ?v13_55) rfl rfl (by kernel_rfl) (by kernel_rfl) (by kernel_rfl) (fun _ _ _ h => h) (by rfl) ?hy13_55 (by assumption) ?r13_55
          case hy13_55 => (intro w hSw; (try dsimp only at hSw); go_simp; try with_reducible rfl)
          try simp only [Act.put, List.setIfInBounds_toArray, List.set_cons_zero, List.set_cons_succ]
          change wpAnyH _ _ _ _ _ 27 #[true, true, true, true, true, true, true, true, true, true, true, true, true, true, false, false, false, false, false, false, false, false, false, false, false, false, false, false, false, false, false, false, false, false, false, false, false, false, false, false, false] _ _
          refine heldTake (i := 15) (d := some 65) (v := ?v15_56) rfl rfl (by kernel_rfl) (by kernel_rfl) (by kernel_rfl) (fun _ _ _ h => h) (by rfl) ?hy15_56 (by assumption) ?r15_56
          case hy15_56 => (intro w hSw; (try dsimp only at hSw); go_simp; try with_reducible rfl)
          try simp only [Act.put, List.setIfInBounds_toArray, List.set_cons_zero, List.set_cons_succ]
          change wpAnyH _ _ _ _ _ 26 #[true, true, true, true, true, true, true, true, true, true, true, true, true, true, false, true, false, false, false, false, false, false, false, false, false, false, false, false, false, false, false, false, false, false, false, false, false, false, false, false, false] _ _
          refine wpAnyH_ready (rs := [14]) (by kernel_rfl) (by simp) ?_
          refine AllReadyH.cons rfl (fun K hK => ?_) AllReadyH.nil
          go_simp
          refine (HPI.out _).mono ?_
          rintro e z14 ⟨rfl, hz14⟩
          go_wp2
          refine hK.out _ _ ⟨hHeld.1.upd hz14 (by simp), hHeld.2.1.upd hz14 (by simp), hHeld.2.2.1.upd hz14 (by simp), hHeld.2.2.2.then hz14⟩ (fun hHeld => ?_)
          clear hK K
          try simp only [Act.put, List.setIfInBounds_toArray, List.set_cons_zero, List.set_cons_succ]
          change wpAnyH _ _ _ _ _ 25 #[true, true, true, true, true, true, true, true, true, true, true, true, true, true, true, true, false, false, false, false, false, false, false, false, false, false, false, false, false, false, false, false, false, false, false, false, false, false, false, false, false] _ _
          refine heldTake (i := 16) (d := some 66) (v := (.bool false)) rfl rfl (by kernel_rfl) (by kernel_rfl) (by kernel_rfl) (fun _ _ _ h => h) (by rfl) ?hy16_58 (by assumption) ?r16_58
          case hy16_58 => (intro w5 hSw; go_simp; try with_reducible rfl)
          try simp only [Act.put, List.setIfInBounds_toArray, List.set_cons_zero, List.set_cons_succ]
          change wpAnyH _ _ _ _ _ 24 #[true, true, true, true, true, true, true, true, true, true, true, true, true, true, true, true, true, false, false, false, false, false, false, false, false, false, false, false, false, false, false, false, false, false, false, false, false, false, false, false, false] _ _
          refine heldTake (i := 17) (d := some 67) (v := ?v17_59) rfl rfl (by kernel_rfl) (by kernel_rfl) (by kernel_rfl) (fun _ _ _ h => h) (by rfl) ?hy17_59 (by assumption) ?r17_59
          case hy17_59 => (intro w hSw; (try dsimp only at hSw); go_simp; try with_reducible rfl)
          try simp only [Act.put, List.setIfInBounds_toArray, List.set_cons_zero, List.set_cons_succ]
          change wpAnyH _ _ _ _ _ 23 #[true, true, true, true, true, true, true, true, true, true, true, true, true, true, true, true, true, true, false, false, false, false, false, false, false, false, false, false, false, false, false, false, false, false, false, false, false, false, false, false, false] _ _
          refine heldTake (i := 18) (d := some 68) (v := ?v18_60) rfl rfl (by kernel_rfl) (by kernel_rfl) (by kernel_rfl) (fun _ _ _ h => h) (by rfl) ?hy18_60 (by assumption) ?r18_60
          case hy18_60 => (intro w hSw; (try dsimp only at hSw); go_simp; try with_reducible rfl)
          try simp only [Act.put, List.setIfInBounds_toArray, List.set_cons_zero, List.set_cons_succ]
          change wpAnyH _ _ _ _ _ 22 #[true, true, true, true, true, true, true, true, true, true, true, true, true, true, true, true, true, true, true, false, false, false, false, false, false, false, false, false, false, false, false, false, false, false, false, false, false, false, false, false, false] _ _
          refine heldTake (i := 19) (d := some 69) (v := ?v19_61) rfl rfl (by kernel_rfl) (by kernel_rfl) (by kernel_rfl) (fun _ _ _ h => h) (by rfl) ?hy19_61 (by assumption) ?r19_61
          case hy19_61 => (intro w hSw; (try dsimp only at hSw); go_simp; try with_reducible rfl)
          try simp only [Act.put, List.setIfInBounds_toArray, List.set_cons_zero, List.set_cons_succ]
          change wpAnyH _ _ _ _ _ 21 #[true, true, true, true, true, true, true, true, true, true, true, true, true, true, true, true, true, true, true, true, false, false, false, false, false, false, false, false, false, false, false, false, false, false, false, false, false, false, false, false, false] _ _
          refine heldTake (i := 20) (d := some 70) (v := ?v20_62) rfl rfl (by kernel_rfl) (by kernel_rfl) (by kernel_rfl) (fun _ _ _ h => h) (by rfl) ?hy20_62 (by assumption) ?r20_62
          case hy20_62 => (intro w5 hSw; have hC := hSw.1; unfold PrN.cells at hC; have q0 := hC.cell 0 rfl; have q1 := hC.cell 1 rfl; have q2 := hC.cell 2 rfl; have q3 := hC.cell 3 rfl; have q4 := hC.cell 4 rfl; go_simp; try with_reducible rfl)
          try simp only [Act.put, List.setIfInBounds_toArray, List.set_cons_zero, List.set_cons_succ]
          change wpAnyH _ _ _ _ _ 20 #[true, true, true, true, true, true, true, true, true, true, true, true, true, true, true, true, true, true, true, true, true, false, false, false, false, false, false, false, false, false, false, false, false, false, false, false, false, false, false, false, false] _ _
          refine wpAnyH_ready (rs := [21]) (by kernel_rfl) (by simp) ?_
          refine AllReadyH.cons rfl (fun K hK => ?_) AllReadyH.nil
          go_simp
          refine (HFR.out _).mono ?_
          rintro e z21 ⟨rfl, hz21⟩
          go_wp2
          refine hK.out _ _ ⟨hHeld.1.upd hz21 (by simp), hHeld.2.1.upd hz21 (by simp), hHeld.2.2.1.upd hz21 (by simp), hHeld.2.2.2.then hz21⟩ (fun hHeld => ?_)
          clear hK K
          try simp only [Act.put, List.setIfInBounds_toArray, List.set_cons_zero, List.set_cons_succ]
          change wpAnyH _ _ _ _ _ 19 #[true, true, true, true, true, true, true, true, true, true, true, true, true, true, true, true, true, true, true, true, true, true, false, false, false, false, false, false, false, false, false, false, false, false, false, false, false, false, false, false, false] _ _
          refine heldTake (i := 22) (d := some 72) (v := (.bool false)) rfl rfl (by kernel_rfl) (by kernel_rfl) (by kernel_rfl) (fun _ _ _ h => h) (by rfl) ?hy22_64 (by assumption) ?r22_64
          case hy22_64 => (intro w5 hSw; go_simp; try with_reducible rfl)
          try simp only [Act.put, List.setIfInBounds_toArray, List.set_cons_zero, List.set_cons_succ]
          change wpAnyH _ _ _ _ _ 18 #[true, true, true, true, true, true, true, true, true, true, true, true, true, true, true, true, true, true, true, true, true, true, true, false, false, false, false, false, false, false, false, false, false, false, false, false, false, false, false, false, false] _ _
          refine heldTake (i := 23) (d := some 73) (v := ?v23_65) rfl rfl (by kernel_rfl) (by kernel_rfl) (by kernel_rfl) (fun _ _ _ h => h) (by rfl) ?hy23_65 (by assumption) ?r23_65
          case hy23_65 => (intro w hSw; (try dsimp only at hSw); go_simp; try with_reducible rfl)
          try simp only [Act.put, List.setIfInBounds_toArray, List.set_cons_zero, List.set_cons_succ]
          change wpAnyH _ _ _ _ _ 17 #[true, true, true, true, true, true, true, true, true, true, true, true, true, true, true, true, true, true, true, true, true, true, true, true, false, false, false, false, false, false, false, false, false, false, false, false, false, false, false, false, false] _ _
          refine heldTake (i := 24) (d := some 74) (v := ?v24_66) rfl rfl (by kernel_rfl) (by kernel_rfl) (by kernel_rfl) (fun _ _ _ h => h) (by rfl) ?hy24_66 (by assumption) ?r24_66
          case hy24_66 => (intro w hSw; (try dsimp only at hSw); go_simp; try with_reducible rfl)
          try simp only [Act.put, List.setIfInBounds_toArray, List.set_cons_zero, List.set_cons_succ]
          change wpAnyH _ _ _ _ _ 16 #[true, true, true, true, true, true, true, true, true, true, true, true, true, true, true, true, true, true, true, true, true, true, true, true, true, false, false, false, false, false, false, false, false, false, false, false, false, false, false, false, false] _ _
          refine heldTake (i := 25) (d := some 75) (v := ?v25_67) rfl rfl (by kernel_rfl) (by kernel_rfl) (by kernel_rfl) (fun _ _ _ h => h) (by rfl) ?hy25_67 (by assumption) ?r25_67
          case hy25_67 => (intro w hSw; (try dsimp only at hSw); go_simp; try with_reducible rfl)
          try simp only [Act.put, List.setIfInBounds_toArray, List.set_cons_zero, List.set_cons_succ]
          change wpAnyH _ _ _ _ _ 15 #[true, true, true, true, true, true, true, true, true, true, true, true, true, true, true, true, true, true, true, true, true, true, true, true, true, true, false, false, false, false, false, false, false, false, false, false, false, false, false, false, false] _ _
          refine heldTake (i := 26) (d := some 76) (v := ?v26_68) rfl rfl (by kernel_rfl) (by kernel_rfl) (by kernel_rfl) (fun _ _ _ h => h) (by rfl) ?hy26_68 (by assumption) ?r26_68
          case hy26_68 => (intro w hSw; (try dsimp only at hSw); go_simp; try with_reducible rfl)
          try simp only [Act.put, List.setIfInBounds_toArray, List.set_cons_zero, List.set_cons_succ]
          change wpAnyH _ _ _ _ _ 14 #[true, true, true, true, true, true, true, true, true, true, true, true, true, true, true, true, true, true, true, true, true, true, true, true, true, true, true, false, false, false, false, false, false, false, false, false, false, false, false, false, false] _ _
          refine heldSkip (i := 27) (d := some 77) rfl rfl (by kernel_rfl) (by kernel_rfl) (by kernel_rfl) (fun _ _ _ h => h) (by rfl) (by assumption) ?r27_69
          try simp only [Act.put, List.setIfInBounds_toArray, List.set_cons_zero, List.set_cons_succ]
          change wpAnyH _ _ _ _ _ 13 #[true, true, true, true, true, true, true, true, true, true, true, true, true, true, true, true, true, true, true, true, true, true, true, true, true, true, true, true, false, false, false, false, false, false, false, false, false, false, false, false, false] _ _
          refine heldSkip (i := 28) (d := some 78) rfl rfl (by kernel_rfl) (by kernel_rfl) (by kernel_rfl) (fun _ _ _ h => h) (by rfl) (by assumption) ?r28_70
          try simp only [Act.put, List.setIfInBounds_toArray, List.set_cons_zero, List.set_cons_succ]
          change wpAnyH _ _ _ _ _ 12 #[true, true, true, true, true, true, true, true, true, true, true, true, true, true, true, true, true, true, true, true, true, true, true, true, true, true, true, true, true, false, false, false, false, false, false, false, false, false, false, false, false] _ _
          refine heldSkip (i := 29) (d := some 79) rfl rfl (by kernel_rfl) (by kernel_rfl) (by kernel_rfl) (fun _ _ _ h => h) (by rfl) (by assumption) ?r29_71
          try simp only [Act.put, List.setIfInBounds_toArray, List.set_cons_zero, List.set_cons_succ]
          change wpAnyH _ _ _ _ _ 11 #[true, true, true, true, true, true, true, true, true, true, true, true, true, true, true, true, true, true, true, true, true, true, true, true, true, true, true, true, true, true, false, false, false, false, false, false, false, false, false, false, false] _ _
          refine heldTake (i := 30) (d := some 80) (v := ?v30_72) rfl rfl (by kernel_rfl) (by kernel_rfl) (by kernel_rfl) (fun _ _ _ h => h) (by rfl) ?hy30_72 (by assumption) ?r30_72
          case hy30_72 => (intro w hSw; (try dsimp only at hSw); go_simp; try with_reducible rfl)
          try simp only [Act.put, List.setIfInBounds_toArray, List.set_cons_zero, List.set_cons_succ]
          change wpAnyH _ _ _ _ _ 10 #[true, true, true, true, true, true, true, true, true, true, true, true, true, true, true, true, true, true, true, true, true, true, true, true, true, true, true, true, true, true, true, false, false, false, false, false, false, false, false, false, false] _ _
          refine heldTake (i := 31) (d := some 81) (v := ?v31_73) rfl rfl (by kernel_rfl) (by kernel_rfl) (by kernel_rfl) (fun _ _ _ h => h) (by rfl) ?hy31_73 (by assumption) ?r31_73
          case hy31_73 => (intro w hSw; (try dsimp only at hSw); go_simp; try with_reducible rfl)
          try simp only [Act.put, List.setIfInBounds_toArray, List.set_cons_zero, List.set_cons_succ]
          change wpAnyH _ _ _ _ _ 9 #[true, true, true, true, true, true, true, true, true, true, true, true, true, true, true, true, true, true, true, true, true, true, true, true, true, true, true, true, true, true, true, true, false, false, false, false, false, false, false, false, false] _ _
          refine heldTake (i := 32) (d := some 82) (v := ?v32_74) rfl rfl (by kernel_rfl) (by kernel_rfl) (by kernel_rfl) (fun _ _ _ h => h) (by rfl) ?hy32_74 (by assumption) ?r32_74
          case hy32_74 => (intro w hSw; (try dsimp only at hSw); go_simp; try with_reducible rfl)
          try simp only [Act.put, List.setIfInBounds_toArray, List.set_cons_zero, List.set_cons_succ]
          change wpAnyH _ _ _ _ _ 8 #[true, true, true, true, true, true, true, true, true, true, true, true, true, true, true, true, true, true, true, true, true, true, true, true, true, true, true, true, true, true, true, true, true, false, false, false, false, false, false, false, false] _ _
          refine heldTake (i := 33) (d := some 83) (v := ?v33_75) rfl rfl (by kernel_rfl) (by kernel_rfl) (by kernel_rfl) (fun _ _ _ h => h) (by rfl) ?hy33_75 (by assumption) ?r33_75
          case hy33_75 => (intro w hSw; (try dsimp only at hSw); go_simp; try with_reducible rfl)
          try simp only [Act.put, List.setIfInBounds_toArray, List.set_cons_zero, List.set_cons_succ]
          change wpAnyH _ _ _ _ _ 7 #[true, true, true, true, true, true, true, true, true, true, true, true, true, true, true, true, true, true, true, true, true, true, true, true, true, true, true, true, true, true, true, true, true, true, false, false, false, false, false, false, false] _ _
          refine heldTake (i := 34) (d := some 84) (v := ?v34_76) rfl rfl (by kernel_rfl) (by kernel_rfl) (by kernel_rfl) (fun _ _ _ h => h) (by rfl) ?hy34_76 (by assumption) ?r34_76
          case hy34_76 => (intro w hSw; (try dsimp only at hSw); go_simp; try with_reducible rfl)
          try simp only [Act.put, List.setIfInBounds_toArray, List.set_cons_zero, List.set_cons_succ]
          change wpAnyH _ _ _ _ _ 6 #[true, true, true, true, true, true, true, true, true, true, true, true, true, true, true, true, true, true, true, true, true, true, true, true, true, true, true, true, true, true, true, true, true, true, true, false, false, false, false, false, false] _ _
          refine heldTake (i := 35) (d := some 85) (v := ?v35_77) rfl rfl (by kernel_rfl) (by kernel_rfl) (by kernel_rfl) (fun _ _ _ h => h) (by rfl) ?hy35_77 (by assumption) ?r35_77
          case hy35_77 => (intro w hSw; (try dsimp only at hSw); go_simp; try with_reducible rfl)
          try simp only [Act.put, List.setIfInBounds_toArray, List.set_cons_zero, List.set_cons_succ]
          change wpAnyH _ _ _ _ _ 5 #[true, true, true, true, true, true, true, true, true, true, true, true, true, true, true, true, true, true, true, true, true, true, true, true, true, true, true, true, true, true, true, true, true, true, true, true, false, false, false, false, false] _ _
          refine heldTake (i := 36) (d := some 86) (v := ?v36_78) rfl rfl (by kernel_rfl) (by kernel_rfl) (by kernel_rfl) (fun _ _ _ h => h) (by rfl) ?hy36_78 (by assumption) ?r36_78
          case hy36_78 => (intro w5 hSw; have hC := hSw.2.1; unfold PrN.cells PrN.no at hC; have q0 := hC.cell 0 rfl; have q1 := hC.cell 1 rfl; have q2 := hC.cell 2 rfl; have q3 := hC.cell 3 rfl; have q4 := hC.cell 4 rfl; go_simp; try with_reducible rfl)
          try simp only [Act.put, List.setIfInBounds_toArray, List.set_cons_zero, List.set_cons_succ]
          change wpAnyH _ _ _ _ _ 4 #[true, true, true, true, true, true, true, true, true, true, true, true, true, true, true, true, true, true, true, true, true, true, true, true, true, true, true, true, true, true, true, true, true, true, true, true, true, false, false, false, false] _ _
          refine heldTake (i := 37) (d := some 87) (v := ?v37_79) rfl rfl (by kernel_rfl) (by kernel_rfl) (by kernel_rfl) (fun _ _ _ h => h) (by rfl) ?hy37_79 (by assumption) ?r37_79
          case hy37_79 => (intro w hSw; (try dsimp only at hSw); go_simp; try with_reducible rfl)
          try simp only [Act.put, List.setIfInBounds_toArray, List.set_cons_zero, List.set_cons_succ]
          change wpAnyH _ _ _ _ _ 3 #[true, true, true, true, true, true, true, true, true, true, true, true, true, true, true, true, true, true, true, true, true, true, true, true, true, true, true, true, true, true, true, true, true, true, true, true, true, true, false, false, false] _ _
          refine heldTake (i := 38) (d := some 88) (v := (.bool false)) rfl rfl (by kernel_rfl) (by kernel_rfl) (by kernel_rfl) (fun _ _ _ h => h) (by rfl) ?hy38_80 (by assumption) ?r38_80
          case hy38_80 => (intro w5 hSw; exact neqPrint (by rfl) 0 0 0 0 0 (by rfl) (by rfl) w5)
          try simp only [Act.put, List.setIfInBounds_toArray, List.set_cons_zero, List.set_cons_succ]
          change wpAnyH _ _ _ _ _ 2 #[true, true, true, true, true, true, true, true, true, true, true, true, true, true, true, true, true, true, true, true, true, true, true, true, true, true, true, true, true, true, true, true, true, true, true, true, true, true, true, false, false] _ _
          refine heldTake (i := 39) (d := some 89) (v := ?v39_81) rfl rfl (by kernel_rfl) (by kernel_rfl) (by kernel_rfl) (fun _ _ _ h => h) (by rfl) ?hy39_81 (by assumption) ?r39_81
          case hy39_81 => (intro w hSw; (try dsimp only at hSw); go_simp; try with_reducible rfl)
          try simp only [Act.put, List.setIfInBounds_toArray, List.set_cons_zero, List.set_cons_succ]
          change wpAnyH _ _ _ _ _ 1 #[true, true, true, true, true, true, true, true, true, true, true, true, true, true, true, true, true, true, true, true, true, true, true, true, true, true, true, true, true, true, true, true, true, true, true, true, true, true, true, true, false] _ _
          refine heldTake (i := 40) (d := some 90) (v := ?v40_82) rfl rfl (by kernel_rfl) (by kernel_rfl) (by kernel_rfl) (fun _ _ _ h => h) (by rfl) ?hy40_82 (by assumption) ?r40_82
          case hy40_82 => (intro w hSw; (try dsimp only at hSw); go_simp; try with_reducible rfl)
          try simp only [Act.put, List.setIfInBounds_toArray, List.set_cons_zero, List.set_cons_succ]
          change wpAnyH _ _ _ _ _ 0 #[true, true, true, true, true, true, true, true, true, true, true, true, true, true, true, true, true, true, true, true, true, true, true, true, true, true, true, true, true, true, true, true, true, true, true, true, true, true, true, true, true] _ _
          refine wpAnyH_done (by kernel_rfl) ?_ 0
          go_wp2
          go_meet
          exact ⟨rfl, hHeld.1, hHeld.2.2.1, hHeld.2.2.2⟩
      case rest =>
        clear HB7 HA7 HC7 HU7 HFN HFR HTN HTR HPI HM1 HM2 HA
        obtain ⟨rfl, hB8, hC8, hU8⟩ := hcut
        have HC8 := Lib.hid hC8
        have HU8 := Lib.hid hU8
        clear hB8 hC8 hU8
        cases RB with
        | true =>
          obtain ⟨h1, h2, h3⟩ := HRR.out.1 rfl
          subst h2
          rw [h1]
          have H1 := Lib.hid h1
          clear h1
          cases B2 with
          | true =>
            obtain ⟨k1, k2⟩ := HR2.out.1 rfl
            have HRQ := rperm_any M2
            rw [k2] at HRQ
            have HRQ := Lib.hid (fun w => HRQ w k1)
            have g1 : decide ((M2 : Int) < 0) = false := decide_eq_false (by omega)
            have g2 : decide ((511 : Int) < (M2 : Int)) = false := decide_eq_false (by omega)
            have K1 := Lib.hid k1
            have K2 := Lib.hid k2
            clear k1 k2
            go_wp2_with fail
            refine (HRQ.out _).mono ?_
            rintro e v0 ⟨rfl, hv0⟩
            have HCQ := Lib.hid (HC8.out.upd hv0 (by simp))
            have HUQ := Lib.hid (HU8.out.then hv0)
            clear hv0 HC8 HU8
            cases OB with
            | true =>
              obtain ⟨j1, j2⟩ := HOB.out.1 rfl
              rw [j1] at HFB
              rw [j2] at HTB
              skip
              have hC := HCQ.out
              unfold PrN.cells at hC
              have q0 := hC.cell 0 rfl
              have q1 := hC.cell 1 rfl
              have q2 := hC.cell 2 rfl
              have q3' := hC.cell 3 rfl
              have q4 := hC.cell 4 rfl
              go_wp2_with fail
              refine (HFB.out _).mono ?_
              rintro e v1 ⟨rfl, hv1⟩
              clear q0 q1 q2 q3' q4 hC
              have hC := HCQ.out.upd hv1 (by simp)
              unfold PrN.cells at hC
              have q0 := hC.cell 0 rfl
              have q1 := hC.cell 1 rfl
              have q2 := hC.cell 2 rfl
              have q3' := hC.cell 3 rfl
              have q4 := hC.cell 4 rfl
              go_wp2_with fail
              refine (HTB.out _).mono ?_
              rintro e v2 ⟨rfl, hv2⟩
              go_wp2_with fail
              refine (HLV.out _).mono ?_
              rintro e v3 ⟨rfl, hv3⟩
              go_wp2
              go_ret
              exact ⟨rfl, ((HUQ.out.then hv1).then hv2).then hv3⟩
            | false =>
              have j1 := HOB.out.2 rfl
              subst j1
              skip
              have hC := HCQ.out
              unfold PrN.cells PrN.no at hC
              have q0 := hC.cell 0 rfl
              have q1 := hC.cell 1 rfl
              have q2 := hC.cell 2 rfl
              have q3' := hC.cell 3 rfl
              have q4 := hC.cell 4 rfl
              go_wp2_with fail
              refine (HLV.out _).mono ?_
              rintro e v3 ⟨rfl, hv3⟩
              go_wp2
              go_ret
              exact ⟨rfl, HUQ.out.then hv3⟩
          | false =>
            have k1 := HR2.out.2 rfl
            subst k1
            have HCQ := HC8
            have HUQ := HU8
            clear HC8 HU8
            cases OB with
            | true =>
              obtain ⟨j1, j2⟩ := HOB.out.1 rfl
              rw [j1] at HFB
              rw [j2] at HTB
              skip
              have hC := HCQ.out
              unfold PrN.cells at hC
              have q0 := hC.cell 0 rfl
              have q1 := hC.cell 1 rfl
              have q2 := hC.cell 2 rfl
              have q3' := hC.cell 3 rfl
              have q4 := hC.cell 4 rfl
              go_wp2_with fail
              refine (HFB.out _).mono ?_
              rintro e v1 ⟨rfl, hv1⟩
              clear q0 q1 q2 q3' q4 hC
              have hC := HCQ.out.upd hv1 (by simp)
              unfold PrN.cells at hC
              have q0 := hC.cell 0 rfl
              have q1 := hC.cell 1 rfl
              have q2 := hC.cell 2 rfl
              have q3' := hC.cell 3 rfl
              have q4 := hC.cell 4 rfl
              go_wp2_with fail
              refine (HTB.out _).mono ?_
              rintro e v2 ⟨rfl, hv2⟩
              go_wp2_with fail
              refine (HLV.out _).mono ?_
              rintro e v3 ⟨rfl, hv3⟩
              go_wp2
              go_ret
              exact ⟨rfl, ((HUQ.out.then hv1).then hv2).then hv3⟩
            | false =>
              have j1 := HOB.out.2 rfl
              subst j1
              skip
              have hC := HCQ.out
              unfold PrN.cells PrN.no at hC
              have q0 := hC.cell 0 rfl
              have q1 := hC.cell 1 rfl
              have q2 := hC.cell 2 rfl
              have q3' := hC.cell 3 rfl
              have q4 := hC.cell 4 rfl
              go_wp2_with fail
              refine (HLV.out _).mono ?_
              rintro e v3 ⟨rfl, hv3⟩
              go_wp2
              go_ret
              exact ⟨rfl, HUQ.out.then hv3⟩
        | false =>
          obtain ⟨h1, h2⟩ := HRR.out.2 rfl
          subst h1
          have h3 := h2
          cases B2 with
          | true =>
            obtain ⟨k1, k2⟩ := HR2.out.1 rfl
            have HRQ := rperm_any M2
            rw [k2] at HRQ
            have HRQ := Lib.hid (fun w => HRQ w k1)
            have g1 : decide ((M2 : Int) < 0) = false := decide_eq_false (by omega)
            have g2 : decide ((511 : Int) < (M2 : Int)) = false := decide_eq_false (by omega)
            have K1 := Lib.hid k1
            have K2 := Lib.hid k2
            clear k1 k2
            go_wp2_with fail
            refine (HRQ.out _).mono ?_
            rintro e v0 ⟨rfl, hv0⟩
            have HCQ := Lib.hid (HC8.out.upd hv0 (by simp))
            have HUQ := Lib.hid (HU8.out.then hv0)
            clear hv0 HC8 HU8
            cases OB with
            | true =>
              obtain ⟨j1, j2⟩ := HOB.out.1 rfl
              rw [j1] at HFB
              rw [j2] at HTB
              skip
              have hC := HCQ.out
              unfold PrN.cells at hC
              have q0 := hC.cell 0 rfl
              have q1 := hC.cell 1 rfl
              have q2 := hC.cell 2 rfl
              have q3' := hC.cell 3 rfl
              have q4 := hC.cell 4 rfl
              go_wp2_with fail
              refine (HFB.out _).mono ?_
              rintro e v1 ⟨rfl, hv1⟩
              clear q0 q1 q2 q3' q4 hC
              have hC := HCQ.out.upd hv1 (by simp)
              unfold PrN.cells at hC
              have q0 := hC.cell 0 rfl
              have q1 := hC.cell 1 rfl
              have q2 := hC.cell 2 rfl
              have q3' := hC.cell 3 rfl
              have q4 := hC.cell 4 rfl
              go_wp2_with fail
              refine (HTB.out _).mono ?_
              rintro e v2 ⟨rfl, hv2⟩
              go_wp2_with fail
              refine (HLV.out _).mono ?_
              rintro e v3 ⟨rfl, hv3⟩
              go_wp2
              go_ret
              exact ⟨rfl, ((HUQ.out.then hv1).then hv2).then hv3⟩
            | false =>
              have j1 := HOB.out.2 rfl
              subst j1
              skip
              have hC := HCQ.out
              unfold PrN.cells PrN.no at hC
              have q0 := hC.cell 0 rfl
              have q1 := hC.cell 1 rfl
              have q2 := hC.cell 2 rfl
              have q3' := hC.cell 3 rfl
              have q4 := hC.cell 4 rfl
              go_wp2_with fail
              refine (HLV.out _).mono ?_
              rintro e v3 ⟨rfl, hv3⟩
              go_wp2
              go_ret
              exact ⟨rfl, HUQ.out.then hv3⟩
          | false =>
            have k1 := HR2.out.2 rfl
            subst k1
            have HCQ := HC8
            have HUQ := HU8
            clear HC8 HU8
            cases OB with
            | true =>
              obtain ⟨j1, j2⟩ := HOB.out.1 rfl
              rw [j1] at HFB
              rw [j2] at HTB
              skip
              have hC := HCQ.out
              unfold PrN.cells at hC
              have q0 := hC.cell 0 rfl
              have q1 := hC.cell 1 rfl
              have q2 := hC.cell 2 rfl
              have q3' := hC.cell 3 rfl
              have q4 := hC.cell 4 rfl
              go_wp2_with fail
              refine (HFB.out _).mono ?_
              rintro e v1 ⟨rfl, hv1⟩
              clear q0 q1 q2 q3' q4 hC
              have hC := HCQ.out.upd hv1 (by simp)
              unfold PrN.cells at hC
              have q0 := hC.cell 0 rfl
              have q1 := hC.cell 1 rfl
              have q2 := hC.cell 2 rfl
              have q3' := hC.cell 3 rfl
              have q4 := hC.cell 4 rfl
              go_wp2_with fail
              refine (HTB.out _).mono ?_
              rintro e v2 ⟨rfl, hv2⟩
              go_wp2_with fail
              refine (HLV.out _).mono ?_
              rintro e v3 ⟨rfl, hv3⟩
              go_wp2
              go_ret
              exact ⟨rfl, ((HUQ.out.then hv1).then hv2).then hv3⟩
            | false =>
              have j1 := HOB.out.2 rfl
              subst j1
              skip
              have hC := HCQ.out
              unfold PrN.cells PrN.no at hC
              have q0 := hC.cell 0 rfl
              have q1 := hC.cell 1 rfl
              have q2 := hC.cell 2 rfl
              have q3' := hC.cell 3 rfl
              have q4 := hC.cell 4 rfl
              go_wp2_with fail
              refine (HLV.out _).mono ?_
              rintro e v3 ⟨rfl, hv3⟩
              go_wp2
              go_ret
              exact ⟨rfl, HUQ.out.then hv3⟩
end Go.Proofs.YtibmhadnfggmlaaDoor
