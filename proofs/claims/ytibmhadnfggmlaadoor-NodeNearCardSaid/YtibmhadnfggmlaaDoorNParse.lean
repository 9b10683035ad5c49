/- Package node: Parse: its walk. -/
import Derived.Test.YtibmhadnfggmlaaDoorNTxP
import Derived.Test.YtibmhadnfggmlaaDoorNFile
import Derived.Deep.CutBlock
namespace Go.Proofs.YtibmhadnfggmlaaDoor
set_option linter.unusedVariables false
set_option linter.unusedSimpArgs false
set_option linter.unusedSectionVars false
open Go.RowKit
set_option linter.unusedVariables false
set_option linter.unusedSimpArgs false

theorem textP_lt (p : PrN) : ∀ x ∈ p.text, x < 256 := by
  intro x hx
  unfold PrN.text textP at hx
  cases hf : fineB p.k p.m p.t p.s p.c with
  | false => rw [if_pos hf] at hx; cases hx
  | true =>
    rw [if_neg (by rw [hf]; decide)] at hx
    by_cases h0 : p.k = 0
    · rw [if_pos h0] at hx
      simp only [List.mem_cons, List.not_mem_nil, or_false] at hx; omega
    · rw [if_neg h0] at hx
      by_cases h2 : p.k = 2
      · rw [if_pos h2] at hx
        rcases List.mem_append.1 hx with hx | hx
        · simp only [List.mem_cons, List.not_mem_nil, or_false] at hx; omega
        · exact permTo_lt _ 9 x hx
      · rw [if_neg h2] at hx
        have hc := fineB_cases hf
        exact joinC_lt 32 (by decide) _ (fileW_lt _ _ _ _ (by omega)) x hx
theorem getD_at (l : List (List Nat)) (i : Nat) (h : i < l.length) : l.getD i [] = l[i] := by
  rw [List.getD_eq_getElem?_getD, List.getElem?_eq_getElem h]; rfl
theorem Blk.mem {w : World} {b : Nat} {cs : List Value} {t : TypeId} (h : Blk w b cs t) (i : Nat) {v : Value} (hv : w.cell? ⟨b, i, none⟩ = some v) : v ∈ cs := by
  unfold Blk at h
  simp [World.cell?, h] at hv
  exact List.mem_of_getElem? hv
/-- The cells of a print. -/
def PrN.cells (p : PrN) : List Value := [.int .i64 p.k, .int .i64 p.m, .int .u32 (p.t : Nat), .int .i64 p.s, .int .u32 (p.c : Nat)]
theorem results_pr {fn : Func} {p t : Tmp} (h : fn.results = #[.cell p 32, .tmp t]) (tmps : Array Value) (w : World) (g : Nat) (P : PrN) (hp : tmps.getD p undef = .pointer (some ⟨g, 0, none⟩)) (hB : Blk w g P.cells 32) :
    (results fn tmps).run Tryd.prog w = .ok (.tuple #[P.val, tmps.getD t undef]) w := by
  have hp' : tmps[p]?.getD undef = .pointer (some ⟨g, 0, none⟩) := by simpa using hp
  unfold PrN.cells at hB
  have c0 := hB.cell 0 rfl
  have c1 := hB.cell 1 rfl
  have c2 := hB.cell 2 rfl
  have c3 := hB.cell 3 rfl
  have c4 := hB.cell 4 rfl
  simp [results, h, go_sem, hp', asAddr, c0, c1, c2, c3, c4, PrN.val, printI]
set_option maxRecDepth 100000 in
set_option maxHeartbeats 6400000 in
theorem nparse_any (S : ByteArray) (w : World) (hs : S.size ≤ 100000) : Calls Tryd.prog 17 #[.string S] w fun e w' => e = .returned (.tuple #[(parseN (bytesOf S)).val, .bool (parseOk (bytesOf S))]) ∧ Upd [] w w' := by
  have hbl := length_bytesOf S
  have HSP := Lib.hid (fun w => splitC_any S 32 w (by omega))
  have HMEM := Lib.hid (fun p hp => splitC_mem 32 (bytesOf S) p hp)
  have HSL : Hid ((splitC 32 (bytesOf S)).length ≤ 100001) := Lib.hid (by
    have h1 := splitC_len 32 (bytesOf S)
    have h2 := List.countP_le_length (p := fun x => decide (x = 32)) (l := bytesOf S)
    omega)
  have HLT : Hid (∀ x ∈ bytesOf S, x < 256) := Lib.hid (fun x hx => bytesOf_lt S x hx)
  have HBD := Lib.hid (preP_bd (bytesOf S))
  have HTX := Lib.hid (fun w => ntext_any (preP (bytesOf S)).k (preP (bytesOf S)).m (preP (bytesOf S)).t (preP (bytesOf S)).s (preP (bytesOf S)).c w HBD.out.1 HBD.out.2)
  have HQ := Lib.hid (strOf_eqS (preP (bytesOf S)).text S (textP_lt _))
  have HOK : Hid (parseOk (bytesOf S) = decide (bytesOf S ≠ [] ∧ (preP (bytesOf S)).text = bytesOf S)) := Lib.hid rfl
  have HN : Hid (parseN (bytesOf S) = if parseOk (bytesOf S) = true then preP (bytesOf S) else PrN.no) := Lib.hid rfl
  have HU0 := Lib.hid ((Upd.refl [] w).alloc (.cells #[.int .i64 0, .int .i64 0, .int .u32 0, .int .i64 0, .int .u32 0] 32))
  have HB0 := Lib.hid (Blk.new w [.int .i64 0, .int .i64 0, .int .u32 0, .int .i64 0, .int .u32 0] 32)
  go_enter Tryd.func17, Tryd.ntmps17
  go_wp2_with fail
  refine (HSP.out _).mono ?_
  rintro e w1 ⟨⟨v, rfl, hT⟩, hu1⟩
  have HB1 := Lib.hid (HB0.out.upd hu1 (by simp))
  have HU1 := Lib.hid (HU0.out.then hu1)
  rw [show UInt8.toNat 32 = 32 from rfl] at hT
  have HT := Lib.hid hT
  clear hT hu1 HB0 HU0 HSP
  obtain ⟨q0, hq0⟩ : ∃ q0, w.heap.size = q0 := ⟨_, rfl⟩
  have HQ0 := Lib.hid (show w.heap.size ≤ q0 by omega)
  rw [hq0] at HB1 ⊢
  clear hq0
  have HTL : Hid (∃ a cap, v = .slice a (splitC 32 (bytesOf S)).length cap) := Lib.hid (by obtain ⟨a, cap, h, _⟩ := HT.out; exact ⟨a, cap, h⟩)
  obtain ⟨av, cv, rfl⟩ := HTL.out
  clear HTL
  obtain ⟨W, hW⟩ : ∃ W, splitC 32 (bytesOf S) = W := ⟨_, rfl⟩
  have HPRE : Hid (preP (bytesOf S) = if W.length = 2 then ⟨2, ((modeP (W.getD 1 [])).1 : Nat), 0, 0, 0⟩ else if W.length = 6 then fileP W else PrN.no) := Lib.hid (by rw [← hW]; rfl)
  rw [hW] at HT HMEM HSL ⊢
  clear hW
  generalize preP (bytesOf S) = PP at *
  go_upto_block 0 with fail
  go_cut [] (fun wx => Blk wx q0 PP.cells 32 ∧ Upd [] w wx)
  case first =>
    have hwl := HSL.out
    by_cases h2 : W.length = 2
    · have t1 : ((W.length : Int) == 2) = true := by rw [beq_iff_eq]; omega
      have HPP : Hid (PP.cells = [.int .i64 2, .int .i64 ((modeP (W.getD 1 [])).1 : Nat), .int .u32 0, .int .i64 0, .int .u32 0]) := Lib.hid (by rw [HPRE.out, if_pos h2]; rfl)
      have hx1 := HMEM.out (W.getD 1 []) (by
        rw [getD_at _ _ (by omega)]; exact List.getElem_mem ..)
      have HM := mode14_any (strOf (W.getD 1 []))
      rw [bytesOf_strOf _ (fun x hx => HLT.out x (hx1.1 x hx))] at HM
      have HM := Lib.hid (fun w => HM w (by rw [size_strOf]; omega))
      unfold modeV at HM
      have hG := HT.out
      obtain ⟨a', cap', ha', hcap', hc'⟩ := hG
      obtain ⟨g, o, hg, hg1⟩ := hc' 1 (by omega)
      cases ha'
      subst hg
      have hg2 : w1.cell? ⟨g, o + 1, none⟩ = some (.string (strOf (W.getD 1 []))) := by
        rw [hg1, getD_at _ _ (by omega)]
      have HG := Lib.hid hg2
      have HGL : Hid (g < w1.heap.size) := Lib.hid (textCell_lt hg1)
      clear hg1 hc' hg2 hx1
      generalize (modeP (W.getD 1 [])).1 = m at *
      generalize (modeP (W.getD 1 [])).2 = mb at *
      generalize strOf (W.getD 1 []) = S1 at *
      have HGN : Hid (g ∉ [q0]) := Lib.hid (by
        intro hm
        rw [List.mem_singleton] at hm
        subst hm
        have := HB1.out.mem _ HG.out
        simp at this)
      have c0 := HB1.out.cell 0 rfl
      have f0 := HB1.out.frz 0
      have hL2 : (1 : Int) < (W.length : Int) := by omega
      have H2 := Lib.hid h2
      clear h2
      go_upto_region 4 with fail
      have HB2 := Lib.hid (Blk.set HB1.out 0 (.int .i64 2))
      have HU2 := Lib.hid (Upd.setCell HU1.out (p := ⟨q0, 0, none⟩) (.inr HQ0.out) (.int .i64 2))
      have d1 : _ = some (Value.string S1) := (((Upd.refl [q0] w1).setCell (p := ⟨q0, 0, none⟩) (.inl (by simp)) (.int .i64 2)).at HGL.out HGN.out (o + 1)).trans HG.out
      clear c0 f0
      generalize w1.setCell ⟨q0, 0, none⟩ (.int .i64 2) = w2 at *
      clear HB1 HU1
      go_wp2_with fail
      refine (HM.out _).mono ?_
      rintro e w3 ⟨rfl, hu3⟩
      have HB3 := Lib.hid (HB2.out.upd hu3 (by simp))
      have HU3 := Lib.hid (HU2.out.then hu3)
      clear HB2 HU2 hu3 d1
      have c1 := HB3.out.cell 1 rfl
      have f1 := HB3.out.frz 1
      go_wp2
      go_meet
      exact ⟨by rw [HPP.out]; exact HB3.out.set 1 _, HU3.out.setCell (.inr HQ0.out) _⟩
    · by_cases h6 : W.length = 6
      · have t1 : ((W.length : Int) == 2) = false := by rw [beq_eq_false_iff_ne]; omega
        have t2 : ((W.length : Int) == 6) = true := by rw [beq_iff_eq]; omega
        obtain ⟨a0, a1, a2, a3, a4, a5, hW6⟩ : ∃ a0 a1 a2 a3 a4 a5, W = [a0, a1, a2, a3, a4, a5] := by
          match W, h6 with
          | [a0, a1, a2, a3, a4, a5], _ => exact ⟨a0, a1, a2, a3, a4, a5, rfl⟩
        have HPP : Hid (PP = ⟨1, ((modeP a1).1 : Nat), (dosParseP (a2 ++ [32] ++ a3)).1, (numB 10 a4 : Nat), numB 16 a5 % 4294967296⟩) := Lib.hid (by rw [HPRE.out, if_neg h2, if_pos h6, hW6]; rfl)
        have HF := Lib.hid (nfile_any a0 a1 a2 a3 a4 a5 (.slice av W.length cv) w1 (hW6 ▸ HT.out) (by
          intro a ha
          have := HMEM.out a (hW6 ▸ ha)
          exact ⟨by omega, fun x hx => HLT.out x (this.1 x hx)⟩))
        have H6 := Lib.hid h6
        have H2 := Lib.hid h2
        clear hW6 h6 h2
        unfold printI at HF
        generalize numB 16 a5 % 4294967296 = n5 at *
        generalize numB 10 a4 = n4 at *
        generalize (dosParseP (a2 ++ [32] ++ a3)).1 = n2 at *
        generalize (modeP a1).1 = n1 at *
        go_wp2_with fail
        refine HF.out.mono ?_
        rintro e w2 ⟨rfl, hu2⟩
        have HB2 := Lib.hid (HB1.out.upd hu2 (by simp))
        have HU2 := Lib.hid (HU1.out.then hu2)
        clear HB1 HU1 hu2
        have c0 := HB2.out.cell 0 rfl
        have f0 := HB2.out.frz 0
        have c1 := HB2.out.cell 1 rfl
        have f1 := HB2.out.frz 1
        have c2 := HB2.out.cell 2 rfl
        have f2 := HB2.out.frz 2
        have c3 := HB2.out.cell 3 rfl
        have f3 := HB2.out.frz 3
        have c4 := HB2.out.cell 4 rfl
        have f4 := HB2.out.frz 4
        go_wp2
        go_meet
        have hE := ((((HB2.out.set 0 (.int .i64 1)).set 1 (.int .i64 (n1 : Nat))).set 2 (.int .u32 (n2 : Nat))).set 3 (.int .i64 (n4 : Nat))).set 4 (.int .u32 (n5 : Nat))
        simp only [List.set_cons_zero, List.set_cons_succ] at hE
        rw [HPP.out]
        exact ⟨hE, ((((HU2.out.setCell (.inr HQ0.out) _).setCell (.inr HQ0.out) _).setCell (.inr HQ0.out) _).setCell (.inr HQ0.out) _).setCell (.inr HQ0.out) _⟩
      · have t1 : ((W.length : Int) == 2) = false := by rw [beq_eq_false_iff_ne]; omega
        have t2 : ((W.length : Int) == 6) = false := by rw [beq_eq_false_iff_ne]; omega
        have HPP : Hid (PP = PrN.no) := Lib.hid (by rw [HPRE.out, if_neg h2, if_neg h6])
        go_wp2
        go_meet
        exact ⟨by rw [HPP.out]; exact HB1.out, HU1.out⟩
  case rest =>
    obtain ⟨hB, hU⟩ := hcut
    have HB := Lib.hid hB
    have HU := Lib.hid hU
    clear hB hU HB1 HU1 HT HMEM HSL HPRE
    have e0 : S.toList = [] ↔ bytesOf S = [] := by
      unfold bytesOf
      rw [ByteArray.toList_eq, List.map_eq_nil_iff]
    unfold printI at HTX
    have hC := HB.out
    unfold PrN.cells at hC
    have c0 := hC.cell 0 rfl
    have c1 := hC.cell 1 rfl
    have c2 := hC.cell 2 rfl
    have c3 := hC.cell 3 rfl
    have c4 := hC.cell 4 rfl
    by_cases hE : S.toList = []
    · have HV : Hid (parseOk (bytesOf S) = false) := Lib.hid (HOK.out.trans (decide_eq_false (fun h => h.1 (e0.1 hE))))
      have HR : Hid ((.tuple #[(parseN (bytesOf S)).val, .bool (parseOk (bytesOf S))] : Value) = .tuple #[PrN.no.val, .bool false]) := Lib.hid (by rw [HN.out, HV.out]; rw [if_neg (by decide)])
      have f0 := hC.frz 0
      have f1 := hC.frz 1
      have f2 := hC.frz 2
      have f3 := hC.frz 3
      have f4 := hC.frz 4
      have t1 : S.toList.isEmpty = true := by rw [hE]; rfl
      have HE := Lib.hid hE
      clear hE e0
      go_wp2
      have hE := ((((hC.set 0 (.int .i64 0)).set 1 (.int .i64 0)).set 2 (.int .u32 0)).set 3 (.int .i64 0)).set 4 (.int .u32 0)
      simp only [List.set_cons_zero, List.set_cons_succ] at hE
      have hE' : Blk _ q0 PrN.no.cells _ := hE
      refine bodyPost_ret (results_pr (p := 2) (t := 3) (by rfl) _ _ q0 PrN.no (by rfl) hE') rfl ⟨congrArg Ending.returned HR.out.symm, ?_⟩
      exact ((((HU.out.setCell (.inr HQ0.out) _).setCell (.inr HQ0.out) _).setCell (.inr HQ0.out) _).setCell (.inr HQ0.out) _).setCell (.inr HQ0.out) _
    · have hne : ¬ bytesOf S = [] := fun h => hE (e0.2 h)
      have t1 : S.toList.isEmpty = false := by
        cases h : S.toList with
        | nil => exact absurd h hE
        | cons a b => rfl
      have HE := Lib.hid hE
      have HNE := Lib.hid hne
      have HTT : Hid (PP.text = textP PP.k PP.m PP.t PP.s PP.c) := Lib.hid rfl
      by_cases hq : PP.text = bytesOf S
      · have HV : Hid (parseOk (bytesOf S) = true) := Lib.hid (HOK.out.trans (decide_eq_true ⟨hne, hq⟩))
        have HR : Hid ((.tuple #[(parseN (bytesOf S)).val, .bool (parseOk (bytesOf S))] : Value) = .tuple #[PP.val, .bool true]) := Lib.hid (by rw [HN.out, HV.out]; rw [if_pos rfl])
        have t2 : ((strOf PP.text).toList != S.toList) = false := by
          rw [bne_eq_false_iff_eq]; rw [hq, strOf_bytesOf]
        have t3 : ((strOf PP.text).toList == S.toList) = true := by
          rw [beq_iff_eq]; rw [hq, strOf_bytesOf]
        rw [HTT.out] at t2 t3
        generalize strOf (textP PP.k PP.m PP.t PP.s PP.c) = TT at *
        clear hE hne hq e0 HQ
        go_wp2_with fail
        refine (HTX.out _).mono ?_
        rintro e w2 ⟨rfl, hu2⟩
        have HB2 := Lib.hid (HB.out.upd hu2 (by simp))
        have HU2 := Lib.hid (HU.out.then hu2)
        clear HB HU hu2 c0 c1 c2 c3 c4 hC
        have hC := HB2.out
        unfold PrN.cells at hC
        have c0 := hC.cell 0 rfl
        have c1 := hC.cell 1 rfl
        have c2 := hC.cell 2 rfl
        have c3 := hC.cell 3 rfl
        have c4 := hC.cell 4 rfl
        have f0 := hC.frz 0
        have f1 := hC.frz 1
        have f2 := hC.frz 2
        have f3 := hC.frz 3
        have f4 := hC.frz 4
        go_wp2
        have hE := ((((hC.set 0 (.int .i64 PP.k)).set 1 (.int .i64 PP.m)).set 2 (.int .u32 (PP.t : Nat))).set 3 (.int .i64 PP.s)).set 4 (.int .u32 (PP.c : Nat))
        simp only [List.set_cons_zero, List.set_cons_succ] at hE
        have hE' : Blk _ q0 PP.cells _ := hE
        refine bodyPost_ret (results_pr (p := 2) (t := 3) (by rfl) _ _ q0 PP (by rfl) hE') rfl ⟨congrArg Ending.returned HR.out.symm, ?_⟩
        exact ((((HU2.out.setCell (.inr HQ0.out) _).setCell (.inr HQ0.out) _).setCell (.inr HQ0.out) _).setCell (.inr HQ0.out) _).setCell (.inr HQ0.out) _
      · have HV : Hid (parseOk (bytesOf S) = false) := Lib.hid (HOK.out.trans (decide_eq_false (fun h => hq h.2)))
        have HR : Hid ((.tuple #[(parseN (bytesOf S)).val, .bool (parseOk (bytesOf S))] : Value) = .tuple #[PrN.no.val, .bool false]) := Lib.hid (by rw [HN.out, HV.out]; rw [if_neg (by decide)])
        have t2 : ((strOf PP.text).toList != S.toList) = true := by
          rw [bne, HQ.out, decide_eq_false hq]; rfl
        have t3 : ((strOf PP.text).toList == S.toList) = false := by
          rw [HQ.out]; exact decide_eq_false hq
        rw [HTT.out] at t2 t3
        generalize strOf (textP PP.k PP.m PP.t PP.s PP.c) = TT at *
        clear hE hne hq e0 HQ
        go_wp2_with fail
        refine (HTX.out _).mono ?_
        rintro e w2 ⟨rfl, hu2⟩
        have HB2 := Lib.hid (HB.out.upd hu2 (by simp))
        have HU2 := Lib.hid (HU.out.then hu2)
        clear HB HU hu2 c0 c1 c2 c3 c4 hC
        have hC := HB2.out
        unfold PrN.cells at hC
        have c0 := hC.cell 0 rfl
        have c1 := hC.cell 1 rfl
        have c2 := hC.cell 2 rfl
        have c3 := hC.cell 3 rfl
        have c4 := hC.cell 4 rfl
        have f0 := hC.frz 0
        have f1 := hC.frz 1
        have f2 := hC.frz 2
        have f3 := hC.frz 3
        have f4 := hC.frz 4
        go_wp2
        have hE := ((((hC.set 0 (.int .i64 0)).set 1 (.int .i64 0)).set 2 (.int .u32 0)).set 3 (.int .i64 0)).set 4 (.int .u32 0)
        simp only [List.set_cons_zero, List.set_cons_succ] at hE
        have hE' : Blk _ q0 PrN.no.cells _ := hE
        refine bodyPost_ret (results_pr (p := 2) (t := 3) (by rfl) _ _ q0 PrN.no (by rfl) hE') rfl ⟨congrArg Ending.returned HR.out.symm, ?_⟩
        exact ((((HU2.out.setCell (.inr HQ0.out) _).setCell (.inr HQ0.out) _).setCell (.inr HQ0.out) _).setCell (.inr HQ0.out) _).setCell (.inr HQ0.out) _
end Go.Proofs.YtibmhadnfggmlaaDoor
