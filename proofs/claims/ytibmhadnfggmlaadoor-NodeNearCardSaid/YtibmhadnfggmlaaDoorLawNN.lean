/- The law swinglelaw14.NodeNear: its walk. -/
import Derived.Test.YtibmhadnfggmlaaDoorNearP
import Derived.Test.YtibmhadnfggmlaaDoorNParse
import Derived.Test.YtibmhadnfggmlaaDoorLivD
import Derived.Lib.ConvBytes
namespace Go.Proofs.YtibmhadnfggmlaaDoor
set_option linter.unusedVariables false
set_option linter.unusedSimpArgs false
set_option linter.unusedSectionVars false
open Go.RowKit
set_option linter.unusedVariables false
set_option linter.unusedSimpArgs false

theorem neqPrint2 {a : Act} {o : Oper} {x y : Operand} {T : TypeId} (ho : o.op = .binOp .neq 32 x y T) (k m t s c : Int) (hx : a.eval x = printL k m t s c) (hy : a.eval y = printL k m t s c) (w : World) :
    (execOp a.eval o).run Tryd.prog w = .ok (.value (.bool false)) w := by
  simp only [execOp, ho, hx, hy, printL]
  go_simp
theorem bytesWorld_frz (w : World) (D : ByteArray) (j : Nat) (hj : j < D.size) : (Lib.bytesWorld w 5 D).frozen? ⟨w.heap.size, j, none⟩ = false := by
  have h := Lib.bytesWorld_at_new w 5 D
  have hs : D.size ≤ (Lib.bytesCells w 5 D).size := by simp [Lib.bytesCells]
  simp [World.frozen?, h]
  omega
theorem cell_alloc {w : World} {b i : Nat} {u : Value} (o : Obj) (h : w.cell? ⟨b, i, none⟩ = some u) : (w.alloc o).cell? ⟨b, i, none⟩ = some u := by
  have hb := textCell_lt h
  exact (((Upd.refl [] w).alloc o).at hb (by simp) i).trans h
theorem cell_set (w : World) (q j i : Nat) (v u : Value) (h : w.cell? ⟨q, i, none⟩ = some u) : (w.setCell ⟨q, j, none⟩ v).cell? ⟨q, i, none⟩ = some (if i = j then v else u) := by
  cases hg : w.heap[q]? with
  | none => simp [World.cell?, hg] at h
  | some o =>
    cases o with
    | cells cs T f =>
      simp [World.cell?, hg] at h
      have hlt : i < cs.size := (Array.getElem?_eq_some_iff.1 h).1
      by_cases e : i = j
      · subst e
        simp [World.cell?, World.setCell, Array.getElem?_modify, hg, hlt]
      · rw [if_neg e]
        simp [World.cell?, World.setCell, Array.getElem?_modify, hg, Array.getElem?_set, Ne.symm e, h]
    | _ => simp [World.cell?, hg] at h
theorem flip_cells (D : ByteArray) (j x q : Nat) (w : World) (hx : (D.data.toList.getD j 0).toNat = x) (h : ∀ i, i < D.size → w.cell? ⟨q, i, none⟩ = some (.int .u8 (D.data.toList.getD i 0).toNat)) (hf : flipL D j = (bytesOf D).set j (x ^^^ 1)) :
    ∀ i, i < D.size → (w.setCell ⟨q, j, none⟩ (.int .u8 ((x ^^^ 1 : Nat) : Int))).cell? ⟨q, i, none⟩ = some (.int .u8 ((flipL D j).getD i 0 : Nat)) := by
  intro i hi
  rw [cell_set w q j i _ _ (h i hi), hf]
  have hl : i < (bytesOf D).length := by rw [length_bytesOf]; exact hi
  have hd : i < D.data.toList.length := by simpa using hi
  rw [List.getD_eq_getElem?_getD, List.getD_eq_getElem?_getD, List.getElem?_set]
  by_cases e : i = j
  · subst e
    rw [if_pos rfl, if_pos rfl, if_pos hl]; rfl
  · rw [if_neg e, if_neg (Ne.symm e), List.getElem?_eq_getElem hl, List.getElem?_eq_getElem hd]
    simp only [Option.getD_some]
    rw [bytesOf_get D i hi hl]; rfl
set_option maxRecDepth 100000 in
theorem flip_conv (D : ByteArray) (j q cap : Nat) (w : World) (h : ∀ i, i < D.size → w.cell? ⟨q, i, none⟩ = some (.int .u8 ((flipL D j).getD i 0 : Nat))) :
    (convert 28 9 (.slice (some ⟨q, 0, none⟩) D.size cap)).run Tryd.prog w = .ok (.string (strOf (flipL D j))) w := by
  have hr := run_convert_bytes_arg w 28 5 Tryd.underlying28 Tryd.underlying5 q 0 D.size cap ((flipL D j).map fun x : Nat => (x : Int)) (by rw [List.length_map, flipL_len]) (fun i hi => by
    have hl : i < (flipL D j).length := by rw [flipL_len]; exact hi
    rw [Nat.zero_add, h i hi, List.getD_eq_getElem?_getD, List.getD_eq_getElem?_getD, List.getElem?_map, List.getElem?_eq_getElem hl]; rfl) 9 Tryd.underlying9
  rw [hr]
  congr 2
  simp only [strOfNums, strOf, List.map_map]
  congr 2
theorem same_self (k m : Int) (t : Nat) (D : ByteArray) : printB k m t D k m t D = true := by simp [printB]
theorem whole_self (k m : Int) (t : Nat) (D : ByteArray) : nodeB k m t D k m t D = true := by simp [nodeB]
theorem textP_len' (p : PrN) : p.text.length ≤ 2000 := by
  unfold PrN.text textP
  cases hf : fineB p.k p.m p.t p.s p.c with
  | false => rw [if_pos rfl]; simp
  | true =>
    rw [if_neg (by decide)]
    by_cases h0 : p.k = 0
    · rw [if_pos h0]; simp
    · rw [if_neg h0]
      by_cases h2 : p.k = 2
      · rw [if_pos h2, List.length_append, permTo_len]; simp
      · rw [if_neg h2, joinC_tot]
        have hc := fineB_cases hf
        have := fileW_tot p.m.toNat p.t p.s.toNat p.c (by omega)
        have e : (fileW p.m.toNat p.t p.s.toNat p.c).length = 5 := rfl
        omega
set_option maxRecDepth 100000 in
set_option maxHeartbeats 12800000 in
theorem law_nodeNear (k m : Int) (t : Nat) (E : ByteArray) (at_ : Nat) (w : World) (ht : t < 4294967296) (hE : E.size ≤ 9223372036854775807) (hat : at_ < 18446744073709551616) :
    Calls Tryd.prog 5 #[nodeV k m t E, .int .u64 (at_ : Nat)] w fun e w' => e = .returned (.bool true) ∧ Upd [] w w' := by
  have HCUT := Lib.hid (fun w' => ncut_any k m t E w' hE)
  obtain ⟨D, hD⟩ : ∃ D, D = E.extract 0 (min E.size 2000) := ⟨_, rfl⟩
  have hs : D.size ≤ 2000 := by rw [hD, ByteArray.size_extract]; omega
  rw [← hD] at HCUT
  clear hD
  have HLV := Lib.hid (fun w => lives14_any w)
  have HRT := Lib.hid (fun w' => nodeRight_any k m t D w' ht (by omega))
  unfold nodeV at HCUT HRT ⊢
  have HB0 := Lib.hid (Blk.new w [.int .i64 k, .int .i64 m, .int .u32 (t : Nat), .string E] 42)
  have HU0 := Lib.hid ((Upd.refl [] w).alloc (.cells #[.int .i64 k, .int .i64 m, .int .u32 (t : Nat), .string E] 42))
  have HQ := Lib.hid (Nat.le_refl w.heap.size)
  by_cases her : nodeErr k m t D = 0
  rotate_left
  · have te : ((nodeErr k m t D : Int) != 0) = true := by rw [bne_iff_ne]; omega
    generalize nodeErr k m t D = er at *
    go_enter Tryd.func5, Tryd.ntmps5
    go_wp2_with fail
    refine (HCUT.out _).mono ?_
    rintro e w1 ⟨rfl, hu1⟩
    have HB1 := Lib.hid (HB0.out.upd hu1 (by simp))
    have HU1 := Lib.hid (HU0.out.then hu1)
    clear HB0 HU0 hu1
    have HER := Lib.hid her
    clear her
    have cc0 := HB1.out.cell 0 rfl
    have f0 := HB1.out.frz 0
    have cc1 := HB1.out.cell 1 rfl
    have f1 := HB1.out.frz 1
    have cc2 := HB1.out.cell 2 rfl
    have f2 := HB1.out.frz 2
    have cc3 := HB1.out.cell 3 rfl
    have f3 := HB1.out.frz 3
    go_upto_region 2 with fail
    have HB2 := Lib.hid ((((HB1.out.set 0 (.int .i64 k)).set 1 (.int .i64 m)).set 2 (.int .u32 (t : Nat))).set 3 (.string D))
    have HU2 := Lib.hid ((((HU1.out.setCell (p := ⟨w.heap.size, 0, none⟩) (.inr HQ.out) (.int .i64 k)).setCell (p := ⟨w.heap.size, 1, none⟩) (.inr HQ.out) (.int .i64 m)).setCell (p := ⟨w.heap.size, 2, none⟩) (.inr HQ.out) (.int .u32 (t : Nat))).setCell (p := ⟨w.heap.size, 3, none⟩) (.inr HQ.out) (.string D))
    clear cc0 f0 cc1 f1 cc2 f2 cc3 f3
    generalize (((w1.setCell ⟨w.heap.size, 0, none⟩ (.int .i64 k)).setCell ⟨w.heap.size, 1, none⟩ (.int .i64 m)).setCell ⟨w.heap.size, 2, none⟩ (.int .u32 (t : Nat))).setCell ⟨w.heap.size, 3, none⟩ (.string D) = w2 at *
    clear HB1 HU1
    have hB2 := HB2.out
    simp only [List.set_cons_zero, List.set_cons_succ] at hB2
    have cc0 := hB2.cell 0 rfl
    have cc1 := hB2.cell 1 rfl
    have cc2 := hB2.cell 2 rfl
    have cc3 := hB2.cell 3 rfl
    go_wp2_with fail
    refine (HRT.out _).mono ?_
    rintro e w3 ⟨rfl, hu3⟩
    go_wp2_with fail
    refine (HLV.out _).mono ?_
    rintro e w4 ⟨rfl, hu4⟩
    go_wp2
    go_ret
    exact ⟨rfl, (HU2.out.then hu3).then hu4⟩
  · have hfine := fine_of_right her
    rw [her] at HRT
    have HPR := Lib.hid (fun w' => print_any k m t D w' (by omega))
    have HSA := Lib.hid (fun w' => same_any k m t D k m t D w' (by omega) (by omega))
    have HWH := Lib.hid (fun w' => whole_any k m t D k m t D w')
    rw [same_self] at HSA
    rw [whole_self] at HWH
    have hclt : (if k = 1 then crcOf D else 0) < 4294967296 := by
      split
      · exact crcOf_lt D
      · decide
    have HSJ := Lib.hid (fun (j : Nat) (hj : j < D.size) (hk : k = 1) w' => same_any k m t D k m t (strOf (flipL D j)) w' (by omega) (by rw [size_strOf, flipL_len]; omega))
    have HWJ := Lib.hid (fun (j : Nat) (hj : j < D.size) (hk : k = 1) w' => whole_any k m t D k m t (strOf (flipL D j)) w')
    have HSJ0 : Hid (∀ (j : Nat) (hj : j < D.size) (hk : k = 1), printB k m t D k m t (strOf (flipL D j)) = false ∧ nodeB k m t D k m t (strOf (flipL D j)) = false) := Lib.hid (fun j hj hk => by
      have hn := crc_flip D j hj
      refine ⟨?_, ?_⟩
      · unfold printB
        refine decide_eq_false (fun h => ?_)
        rw [if_pos hk, if_pos hk] at h
        have := h.2.2.2.2
        omega
      · unfold nodeB
        refine decide_eq_false (fun h => ?_)
        rw [← h.2.2.2] at hn
        exact hn rfl)
    have HC1 : Hid ((if k = 1 then crcOf D else 0) = (if k = 1 then crcOf D else 0)) := Lib.hid rfl
    unfold printV at HPR
    obtain ⟨c1, hc1⟩ : ∃ c1, (if k = 1 then crcOf D else 0) = c1 := ⟨_, rfl⟩
    rw [hc1] at HPR hfine hclt
    clear hc1 HC1
    have HTX := Lib.hid (fun w' => ntext_any k m t D.size c1 w' ht hclt)
    have HFN := Lib.hid (fun w' => nfine_any k m t D.size c1 w' ht hclt)
    have hpt := parseOk_text (p := ⟨k, m, t, D.size, c1⟩) ht hclt
    have hff : PrN.fine ⟨k, m, t, D.size, c1⟩ = true := hfine
    rw [hff] at hpt
    have hpt2 := hpt.2.1 rfl
    have HPA := Lib.hid (fun w' => nparse_any (strOf (PrN.text ⟨k, m, t, D.size, c1⟩)) w' (by rw [size_strOf]; have := textP_len' ⟨k, m, t, D.size, c1⟩; omega))
    rw [bytesOf_strOf _ (textP_lt _), hpt.1, hpt2] at HPA
    have HTE : Hid (PrN.text ⟨k, m, t, D.size, c1⟩ = textP k m t D.size c1) := Lib.hid rfl
    rw [HTE.out] at HPA
    rw [hfine] at HFN
    unfold PrN.val at HPA
    unfold printI at HTX HFN HPA
    dsimp only at HPA
    generalize strOf (textP k m t D.size c1) = TX at *
    have HSS := Lib.hid hs
    have HXB := Lib.hid (fun (w : World) => Lib.bytesWorld_at_new w 5 D)
    have HXU := Lib.hid (fun (w : World) => upd_bytesWorld w 5 D)
    have HXC := Lib.hid (fun (w : World) (j : Nat) (hj : j < D.size) => Lib.bytesWorld_cell w 5 D j hj)
    have hcv := fun w => Lib.run_convert_string_bytes (P := Tryd.prog) w 9 28 5 D Tryd.underlying9 Tryd.underlying28 Tryd.underlying5
    have HCV := Lib.hid hcv
    clear hcv hpt hpt2 hff hfine her HTE hclt
    obtain ⟨q0, hq0⟩ : ∃ q0, w.heap.size = q0 := ⟨_, rfl⟩
    have HQ := Lib.hid (show w.heap.size ≤ q0 by omega)
    rw [hq0] at HB0
    go_enter Tryd.func5, Tryd.ntmps5
    go_wp2_with fail
    try rw [hq0]
    clear hq0
    refine (HCUT.out _).mono ?_
    rintro e w1 ⟨rfl, hu1⟩
    have HB1 := Lib.hid (HB0.out.upd hu1 (by simp))
    have HU1 := Lib.hid (HU0.out.then hu1)
    clear HB0 HU0 hu1
    have cc0 := HB1.out.cell 0 rfl
    have f0 := HB1.out.frz 0
    have cc1 := HB1.out.cell 1 rfl
    have f1 := HB1.out.frz 1
    have cc2 := HB1.out.cell 2 rfl
    have f2 := HB1.out.frz 2
    have cc3 := HB1.out.cell 3 rfl
    have f3 := HB1.out.frz 3
    go_upto_region 2 with fail
    have HB2 := Lib.hid ((((HB1.out.set 0 (.int .i64 k)).set 1 (.int .i64 m)).set 2 (.int .u32 (t : Nat))).set 3 (.string D))
    have HU2 := Lib.hid ((((HU1.out.setCell (p := ⟨q0, 0, none⟩) (.inr HQ.out) (.int .i64 k)).setCell (p := ⟨q0, 1, none⟩) (.inr HQ.out) (.int .i64 m)).setCell (p := ⟨q0, 2, none⟩) (.inr HQ.out) (.int .u32 (t : Nat))).setCell (p := ⟨q0, 3, none⟩) (.inr HQ.out) (.string D))
    clear cc0 f0 cc1 f1 cc2 f2 cc3 f3
    generalize (((w1.setCell ⟨q0, 0, none⟩ (.int .i64 k)).setCell ⟨q0, 1, none⟩ (.int .i64 m)).setCell ⟨q0, 2, none⟩ (.int .u32 (t : Nat))).setCell ⟨q0, 3, none⟩ (.string D) = w2 at *
    clear HB1 HU1
    have hB2 := HB2.out
    simp only [List.set_cons_zero, List.set_cons_succ] at hB2
    have HB2 := Lib.hid hB2
    have cc0 := hB2.cell 0 rfl
    have cc1 := hB2.cell 1 rfl
    have cc2 := hB2.cell 2 rfl
    have cc3 := hB2.cell 3 rfl
    go_wp2_with fail
    refine (HRT.out _).mono ?_
    rintro e w3 ⟨rfl, hu3⟩
    have HB3 := Lib.hid (HB2.out.upd hu3 (by simp))
    have HU3 := Lib.hid (HU2.out.then hu3)
    clear HB2 HU2 hu3 hB2 cc0 cc1 cc2 cc3
    have cc0 := HB3.out.cell 0 rfl
    have cc1 := HB3.out.cell 1 rfl
    have cc2 := HB3.out.cell 2 rfl
    have cc3 := HB3.out.cell 3 rfl
    go_wp2_with fail
    refine (HPR.out _).mono ?_
    rintro e w4 ⟨rfl, hu4⟩
    have HB4 := Lib.hid ((HB3.out.upd hu4 (by simp)).alloc (.cells #[.int .i64 k, .int .i64 m, .int .u32 (t : Nat), .int .i64 (D.size : Nat), .int .u32 (c1 : Nat)] 32))
    have HP4 := Lib.hid (Blk.new w4 [.int .i64 k, .int .i64 m, .int .u32 (t : Nat), .int .i64 (D.size : Nat), .int .u32 (c1 : Nat)] 32)
    have HU4 := Lib.hid ((HU3.out.then hu4).alloc (.cells #[.int .i64 k, .int .i64 m, .int .u32 (t : Nat), .int .i64 (D.size : Nat), .int .u32 (c1 : Nat)] 32))
    clear HB3 HU3 hu4 cc0 cc1 cc2 cc3
    go_wp2_with fail
    refine (HTX.out _).mono ?_
    rintro e w5 ⟨rfl, hu5⟩
    have HB5 := Lib.hid (HB4.out.upd hu5 (by simp))
    have HP5 := Lib.hid (HP4.out.upd hu5 (by simp))
    have HU5 := Lib.hid (HU4.out.then hu5)
    clear HB4 HP4 HU4 hu5
    go_wp2_with fail
    refine (HPA.out _).mono ?_
    rintro e w6 ⟨rfl, hu6⟩
    have HB6 := Lib.hid ((HB5.out.upd hu6 (by simp)).alloc (.cells #[.int .i64 k, .int .i64 m, .int .u32 (t : Nat), .int .i64 (D.size : Nat), .int .u32 (c1 : Nat)] 32))
    have HP6 := Lib.hid ((HP5.out.upd hu6 (by simp)).alloc (.cells #[.int .i64 k, .int .i64 m, .int .u32 (t : Nat), .int .i64 (D.size : Nat), .int .u32 (c1 : Nat)] 32))
    have HR6 := Lib.hid (Blk.new w6 [.int .i64 k, .int .i64 m, .int .u32 (t : Nat), .int .i64 (D.size : Nat), .int .u32 (c1 : Nat)] 32)
    have HU6 := Lib.hid ((HU5.out.then hu6).alloc (.cells #[.int .i64 k, .int .i64 m, .int .u32 (t : Nat), .int .i64 (D.size : Nat), .int .u32 (c1 : Nat)] 32))
    clear HB5 HP5 HU5 hu6
    go_upto_region 6 with fail
    change Code.wp _ _ _ _ (w6.alloc (.cells #[.int .i64 k, .int .i64 m, .int .u32 (t : Nat), .int .i64 (D.size : Nat), .int .u32 (c1 : Nat)] 32))
    generalize w6.alloc (.cells #[.int .i64 k, .int .i64 m, .int .u32 (t : Nat), .int .i64 (D.size : Nat), .int .u32 (c1 : Nat)] 32) = w7 at *
    generalize w4.heap.size = q5 at *
    generalize w6.heap.size = q6 at *
    have pp0 := HP6.out.cell 0 rfl
    have pp1 := HP6.out.cell 1 rfl
    have pp2 := HP6.out.cell 2 rfl
    have pp3 := HP6.out.cell 3 rfl
    have pp4 := HP6.out.cell 4 rfl
    go_wp2_with fail
    refine (HFN.out _).mono ?_
    rintro e w8 ⟨rfl, hu8⟩
    have HB8 := Lib.hid (HB6.out.upd hu8 (by simp))
    have HP8 := Lib.hid (HP6.out.upd hu8 (by simp))
    have HR8 := Lib.hid (HR6.out.upd hu8 (by simp))
    have HU8 := Lib.hid (HU6.out.then hu8)
    clear HB6 HP6 HR6 HU6 hu8 pp0 pp1 pp2 pp3 pp4
    have pp0 := HP8.out.cell 0 rfl
    have pp1 := HP8.out.cell 1 rfl
    have pp2 := HP8.out.cell 2 rfl
    have pp3 := HP8.out.cell 3 rfl
    have pp4 := HP8.out.cell 4 rfl
    have rr0 := HR8.out.cell 0 rfl
    have rr1 := HR8.out.cell 1 rfl
    have rr2 := HR8.out.cell 2 rfl
    have rr3 := HR8.out.cell 3 rfl
    have rr4 := HR8.out.cell 4 rfl
    have cc0 := HB8.out.cell 0 rfl
    have cc1 := HB8.out.cell 1 rfl
    have cc2 := HB8.out.cell 2 rfl
    have cc3 := HB8.out.cell 3 rfl
    go_wp2_with fail
    refine (HSA.out _).mono ?_
    rintro e w9 ⟨rfl, hu9⟩
    have HB9 := Lib.hid (HB8.out.upd hu9 (by simp))
    have HU9 := Lib.hid (HU8.out.then hu9)
    clear HB8 HP8 HR8 HU8 hu9 pp0 pp1 pp2 pp3 pp4 rr0 rr1 rr2 rr3 rr4 cc0 cc1 cc2 cc3
    have cc0 := HB9.out.cell 0 rfl
    have cc1 := HB9.out.cell 1 rfl
    have cc2 := HB9.out.cell 2 rfl
    have cc3 := HB9.out.cell 3 rfl
    go_wp2_with fail
    refine (HWH.out _).mono ?_
    rintro e w10 ⟨rfl, hu10⟩
    have HB10 := Lib.hid (HB9.out.upd hu10 (by simp))
    have HU10 := Lib.hid (HU9.out.then hu10)
    clear HB9 HU9 hu10 cc0 cc1 cc2 cc3
    have cc0 := HB10.out.cell 0 rfl
    have cc1 := HB10.out.cell 1 rfl
    have cc2 := HB10.out.cell 2 rfl
    have cc3 := HB10.out.cell 3 rfl
    by_cases hk : k = 1
    rotate_left
    · have tk : (k != 1) = true := by rw [bne_iff_ne]; exact hk
      have HK := Lib.hid hk
      clear hk
      go_wp2_with fail
      refine (HLV.out _).mono ?_
      rintro e w11 ⟨rfl, hu11⟩
      go_wp2
      go_ret
      exact ⟨rfl, HU10.out.then hu11⟩
    · have tk : (k != 1) = false := by rw [bne_eq_false_iff_eq]; exact hk
      by_cases hd : D.size = 0
      · have t1 : D.toList.isEmpty = true := by
          rw [ByteArray.toList_eq, List.isEmpty_iff_length_eq_zero]; simpa using hd
        have HK := Lib.hid hk
        have HD := Lib.hid hd
        clear hk hd
        go_wp2_with fail
        refine (HLV.out _).mono ?_
        rintro e w11 ⟨rfl, hu11⟩
        go_wp2
        go_ret
        exact ⟨rfl, HU10.out.then hu11⟩
      · have t1 : D.toList.isEmpty = false := by
          rw [ByteArray.toList_eq]
          cases h : D.data.toList with
          | nil => exact absurd (by have := congrArg List.length h; simpa using this) hd
          | cons a b => rfl
        obtain ⟨j, hj⟩ : ∃ j, at_ % D.size = j := ⟨_, rfl⟩
        have hjl : j < D.size := by rw [← hj]; exact Nat.mod_lt _ (by omega)
        have hje : Hid ((at_ : Int) % (D.size : Int) = (j : Int)) := Lib.hid (by rw [← hj]; rfl)
        have HSJ := Lib.hid (HSJ.out j hjl hk)
        have HWJ := Lib.hid (HWJ.out j hjl hk)
        have HSJ0 := HSJ0.out j hjl hk
        rw [HSJ0.1] at HSJ
        rw [HSJ0.2] at HWJ
        have HXC := HXC
        have hcv := HCV.out
        have HK := Lib.hid hk
        have HD := Lib.hid hd
        have HJ := Lib.hid hj
        have hs := HSS.out
        clear hk hd hj HSJ0
        go_upto_region 11 with fail
        have hb10 := HB10.out.lt
        have HB11 := Lib.hid (HB10.out.upd (HXU.out w10) (by simp))
        have HU11 := Lib.hid (HU10.out.then (HXU.out w10))
        have HXC11 := Lib.hid (fun i hi => HXC.out w10 i hi)
        have HXF := Lib.hid (bytesWorld_frz w10 D j hjl)
        have HQ8 : Hid (q0 ≠ w10.heap.size ∧ w.heap.size ≤ w10.heap.size) := Lib.hid ⟨by omega, by have := HU10.out.size; omega⟩
        generalize Lib.bytesWorld w10 5 D = w11 at *
        generalize w10.heap.size = q8 at *
        clear HB10 HU10 cc0 cc1 cc2 cc3 hb10 hcv
        obtain ⟨x, hx⟩ : ∃ x, (D.data.toList.getD j 0).toNat = x := ⟨_, rfl⟩
        have hcx := HXC11.out j hjl
        rw [hx] at hcx
        have hxl : x < 256 := by rw [← hx]; exact UInt8.toNat_lt _
        have hbx : (bytesOf D).getD j 0 = x := by
          rw [← hx]; unfold bytesOf
          rw [List.getD_eq_getElem?_getD, List.getD_eq_getElem?_getD, List.getElem?_map]
          cases D.data.toList[j]? <;> rfl
        have HFL : Hid (flipL D j = (bytesOf D).set j (x ^^^ 1)) := Lib.hid (by unfold flipL; rw [hbx])
        have hxo : bits .xor .u8 (x : Int) 1 = ((x ^^^ 1 : Nat) : Int) := xor_u8 x 1 hxl (by decide)
        have HFC := Lib.hid (flip_cells D j x q8 w11 hx HXC11.out HFL.out)
        generalize x ^^^ 1 = y at *
        have hfx := HXF.out
        have hmod := hje.out
        have HX := Lib.hid hx
        clear hx hbx
        go_upto_region 12 with fail
        have HF12 := HFC
        clear HFC
        have HB12 := Lib.hid (HB11.out.setFar (a := ⟨q8, j, none⟩) (.int .u8 (y : Nat)) HQ8.out.1)
        have HU12 := Lib.hid (HU11.out.setCell (p := ⟨q8, j, none⟩) (.inr HQ8.out.2) (.int .u8 (y : Nat)))
        generalize w11.setCell ⟨q8, j, none⟩ (.int .u8 (y : Nat)) = w12 at *
        clear HB11 HU11 HXF hfx hcx hxo hmod
        have cc0 := HB12.out.cell 0 rfl
        have cc1 := HB12.out.cell 1 rfl
        have cc2 := HB12.out.cell 2 rfl
        have cc3 := HB12.out.cell 3 rfl
        go_upto_region 13 with fail
        have HB13 := Lib.hid (HB12.out.alloc (.cells #[.int .i64 k, .int .i64 m, .int .u32 (t : Nat), .string D] 42))
        have HM13 := Lib.hid (Blk.new w12 [.int .i64 k, .int .i64 m, .int .u32 (t : Nat), .string D] 42)
        have HU13 := Lib.hid (HU12.out.alloc (.cells #[.int .i64 k, .int .i64 m, .int .u32 (t : Nat), .string D] 42))
        have HF13 := Lib.hid (fun i hi => cell_alloc (.cells #[.int .i64 k, .int .i64 m, .int .u32 (t : Nat), .string D] 42) (HF12.out i hi))
        have HQ9 : Hid (q0 ≠ w12.heap.size ∧ w.heap.size ≤ w12.heap.size) := Lib.hid ⟨by have := HB12.out.lt; omega, HU12.out.size⟩
        change Code.wp _ _ _ _ (w12.alloc (.cells #[.int .i64 k, .int .i64 m, .int .u32 (t : Nat), .string D] 42))
        generalize w12.alloc (.cells #[.int .i64 k, .int .i64 m, .int .u32 (t : Nat), .string D] 42) = w13 at *
        generalize w12.heap.size = q9 at *
        clear HB12 HU12 HF12 cc0 cc1 cc2 cc3
        have hconv := fun (cap : Nat) => flip_conv D j q8 cap w13 HF13.out
        generalize strOf (flipL D j) = D2 at *
        have mm0 := HM13.out.cell 0 rfl
        have fm0 := HM13.out.frz 0
        have mm1 := HM13.out.cell 1 rfl
        have fm1 := HM13.out.frz 1
        have mm2 := HM13.out.cell 2 rfl
        have fm2 := HM13.out.frz 2
        have mm3 := HM13.out.cell 3 rfl
        have fm3 := HM13.out.frz 3
        go_upto_region 14 with fail
        have HB14 := Lib.hid (HB13.out.setFar (a := ⟨q9, 3, none⟩) (.string D2) HQ9.out.1)
        have hM14 := HM13.out.set 3 (.string D2)
        simp only [List.set_cons_zero, List.set_cons_succ] at hM14
        have HM14 := Lib.hid hM14
        have HU14 := Lib.hid (HU13.out.setCell (p := ⟨q9, 3, none⟩) (.inr HQ9.out.2) (.string D2))
        generalize w13.setCell ⟨q9, 3, none⟩ (.string D2) = w14 at *
        clear HB13 HM13 HU13 HF13 hconv hM14 mm0 mm1 mm2 mm3
        have cc0 := HB14.out.cell 0 rfl
        have cc1 := HB14.out.cell 1 rfl
        have cc2 := HB14.out.cell 2 rfl
        have cc3 := HB14.out.cell 3 rfl
        have mm0 := HM14.out.cell 0 rfl
        have mm1 := HM14.out.cell 1 rfl
        have mm2 := HM14.out.cell 2 rfl
        have mm3 := HM14.out.cell 3 rfl
        go_wp2_with fail
        refine (HSJ.out _).mono ?_
        rintro e w15 ⟨rfl, hu15⟩
        have HB15 := Lib.hid (HB14.out.upd hu15 (by simp))
        have HM15 := Lib.hid (HM14.out.upd hu15 (by simp))
        clear HB14 HM14 cc0 cc1 cc2 cc3 mm0 mm1 mm2 mm3
        have cc0 := HB15.out.cell 0 rfl
        have cc1 := HB15.out.cell 1 rfl
        have cc2 := HB15.out.cell 2 rfl
        have cc3 := HB15.out.cell 3 rfl
        have mm0 := HM15.out.cell 0 rfl
        have mm1 := HM15.out.cell 1 rfl
        have mm2 := HM15.out.cell 2 rfl
        have mm3 := HM15.out.cell 3 rfl
        go_wp2_with fail
        refine (HWJ.out _).mono ?_
        rintro e w16 ⟨rfl, hu16⟩
        go_wp2_with fail
        refine (HLV.out _).mono ?_
        rintro e w17 ⟨rfl, hu17⟩
        go_wp2
        go_ret
        exact ⟨rfl, ((HU14.out.then hu15).then hu16).then hu17⟩
end Go.Proofs.YtibmhadnfggmlaaDoor
