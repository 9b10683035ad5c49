/- Package script: Node: its walk. -/
import Derived.Test.YtigjingielnaoaaDoorScT
namespace Go.Proofs.YtigjingielnaoaaDoor
set_option linter.unusedVariables false
set_option linter.unusedSimpArgs false
set_option linter.unusedSectionVars false
open Go.RowKit
set_option linter.unusedVariables false
set_option linter.unusedSimpArgs false

theorem Row.ne_cellsS {w : World} {e e' : TypeId} {size n : Nat} {v : Value} {xs cs : List Value} {b : Nat} (h : Row w e size v n xs) (hB : Blk w b cs e') (ht : e ≠ e') : v.ownBlock ≠ some b := fun hk => by
  rcases h.2 with ⟨rfl, _⟩ | ⟨g, cap, cur, rfl, hb, hh, _⟩
  · simp [Value.ownBlock] at hk
  · simp [Value.ownBlock] at hk
    subst hk
    unfold Blk at hB
    rw [hh] at hB
    simp at hB
    exact ht hB.2
theorem NodN.text_lt (n : NodN) : ∀ x ∈ n.text, x < 256 := by
  intro x hx
  unfold NodN.text at hx
  split at hx
  · simp at hx
  · split at hx
    · simp at hx; omega
    · split at hx
      · rcases List.mem_append.1 hx with h | h
        · simp at h; omega
        · exact permTo_lt _ 9 x h
      · exact joinC_lt 32 (by decide) _ (fileW4_lt n) x hx
theorem results_nd {fn : Func} {p t : Tmp} (h : fn.results = #[.cell p 31, .tmp t]) (tmps : Array Value) (w : World) (g : Nat) (P : NodN) (hp : tmps.getD p undef = .pointer (some ⟨g, 0, none⟩)) (hB : Blk w g [.int .i64 P.k, .int .i64 P.m, .int .u32 (P.t : Nat), .string P.D] 31) :
    (results fn tmps).run Tryd.prog w = .ok (.tuple #[P.v, tmps.getD t undef]) w := by
  have c0 := hB.cell 0 rfl
  have c1 := hB.cell 1 rfl
  have c2 := hB.cell 2 rfl
  have c3 := hB.cell 3 rfl
  have hp' : tmps[p]?.getD undef = .pointer (some ⟨g, 0, none⟩) := by simpa using hp
  simp [results, h, go_sem, hp', c0, c1, c2, c3, NodN.v, nodeV]
theorem getD_atS (l : List (List Nat)) (i : Nat) (h : i < l.length) : l.getD i [] = l[i] := by
  rw [List.getD_eq_getElem?_getD, List.getElem?_eq_getElem h, Option.getD_some]
theorem modeP_lt512 (l : List Nat) : (modeP l).1 < 512 := modeP_lt l
set_option maxRecDepth 100000 in
set_option maxHeartbeats 6400000 in
theorem snode_any (S : ByteArray) (w : World) (hs : S.size ≤ 100000) :
    Calls Tryd.prog 11 #[.string S] w fun e w' => e = .returned (.tuple #[(nodN (bytesOf S)).v, .bool (nodOk (bytesOf S))]) ∧ Upd [] w w' := by
  have HSP := Lib.hid (fun w => splitC_row S 32 w (by omega))
  have HLB := Lib.hid (bytesOf_lt S)
  have HLL := Lib.hid (length_bytesOf S)
  have hem := isEmpty_of S
  have HEQ := Lib.hid (fun p : List Nat => fun hp => strOf_eqS p S hp)
  have HPP : Hid (∀ p ∈ splitC 32 (bytesOf S), p.length ≤ S.size ∧ ∀ x ∈ p, x < 256) := Lib.hid (fun p hp => ⟨by rw [← length_bytesOf]; exact (splitC_mem 32 (bytesOf S) p hp).2, fun x hx => bytesOf_lt S x ((splitC_mem 32 (bytesOf S) p hp).1 x hx)⟩)
  have HE32 : Hid (splitC (32 : UInt8).toNat (bytesOf S) = splitC 32 (bytesOf S)) := Lib.hid rfl
  rw [HE32.out] at HSP
  obtain ⟨l, hl⟩ : ∃ l, bytesOf S = l := ⟨_, rfl⟩
  rw [hl] at HSP HLB HLL hem HEQ HPP
  rw [hl]
  have HB0 := Lib.hid (Blk.new w [.int .i64 0, .int .i64 0, .int .u32 0, .string ⟨#[]⟩] 31)
  have HU0 := Lib.hid ((Upd.refl [] w).alloc (.cells #[.int .i64 0, .int .i64 0, .int .u32 0, .string ⟨#[]⟩] 31))
  clear HE32 hl
  go_enter Tryd.func11, Tryd.ntmps11
  go_upto_region 1 with fail
  change Code.wp _ _ _ _ (w.alloc (.cells #[.int .i64 0, .int .i64 0, .int .u32 0, .string ⟨#[]⟩] 31))
  generalize w.alloc (.cells #[.int .i64 0, .int .i64 0, .int .u32 0, .string ⟨#[]⟩] 31) = w0 at *
  obtain ⟨q0, hq0⟩ : ∃ q0, w.heap.size = q0 := ⟨_, rfl⟩
  have HQ := Lib.hid (show w.heap.size ≤ q0 by omega)
  rw [hq0] at HB0 ⊢
  clear hq0
  go_wp2_with fail
  refine (HSP.out _).mono ?_
  rintro e w1 ⟨⟨v, rfl, hv⟩, hu1⟩
  have HB1 := Lib.hid (HB0.out.upd hu1 (by simp))
  have HU1 := Lib.hid (HU0.out.then hu1)
  have hne := hv.ne_cellsS HB1.out (by decide)
  have hvt := hv.textsAt
  have hvl := hv.lt
  obtain ⟨ad, cap, rfl, hcap, hc⟩ := hvt
  clear hu1 HB0 HU0 HSP hv
  have HC := Lib.hid hc
  obtain ⟨ps, hps⟩ : ∃ ps, splitC 32 l = ps := ⟨_, rfl⟩
  have HPS := Lib.hid hps
  rw [hps] at HC HPP
  rw [hps] at hcap ⊢
  clear hps hc
  rcases Nat.lt_trichotomy ps.length 2 with h2 | h2 | h2
  · have hz2 : ¬ (ps.length : Int) = 2 := by omega
    have hz5 : ¬ (ps.length : Int) = 5 := by omega
    have hb2 : ((ps.length : Int) == 2) = false := by simp; omega
    have hb5 : ((ps.length : Int) == 5) = false := by simp; omega
    have HPRE : Hid (NodN.pre l = NodN.mk 0 0 0 ⟨#[]⟩) := Lib.hid (by unfold NodN.pre; rw [HPS.out, if_neg (by omega), if_neg (by omega)]; rfl)
    go_upto_region 11 with fail

    have HTX := Lib.hid (fun w => stext_any 0 0 0 ⟨#[]⟩ w (by omega) (by simp [ByteArray.size]))
    have HOK : Hid (nodOk l = (decide (l ≠ []) && decide ((NodN.mk 0 0 0 ⟨#[]⟩).text = l))) := Lib.hid (by unfold nodOk; rw [HPRE.out, Bool.decide_and])
    have HTL := NodN.text_lt (NodN.mk 0 0 0 ⟨#[]⟩)
    have heq := HEQ.out _ HTL
    have k0 := HB1.out.cell 0 rfl
    have k1 := HB1.out.cell 1 rfl
    have k2 := HB1.out.cell 2 rfl
    have k3 := HB1.out.cell 3 rfl
    have g0 := HB1.out.frz 0
    have g1 := HB1.out.frz 1
    have g2 := HB1.out.frz 2
    have g3 := HB1.out.frz 3
    obtain ⟨TXT, hTXT⟩ : ∃ TXT, (NodN.mk 0 0 0 ⟨#[]⟩).text = TXT := ⟨_, rfl⟩
    rw [hTXT] at HTX HOK heq
    unfold nodeV at HTX
    clear HTL
    by_cases hl0 : l = []
    · have hem2 : S.toList.isEmpty = true := by rw [hem]; exact decide_eq_true hl0
      have HN : Hid (nodOk l = false) := Lib.hid (by rw [HOK.out, decide_eq_false (by simpa using hl0)]; rfl)
      clear hem hl0 HTX heq
      go_wp2
      refine bodyPost_ret (results_nd rfl _ _ q0 NodN.no rfl ((((HB1.out.set 0 (.int .i64 0)).set 1 (.int .i64 0)).set 2 (.int .u32 0)).set 3 (.string ⟨#[]⟩))) rfl ?_
      exact ⟨by rw [nodN_no HN.out, HN.out]; rfl, ((((HU1.out.setCell (p := ⟨q0, 0, none⟩) (.inr HQ.out) _).setCell (p := ⟨q0, 1, none⟩) (.inr HQ.out) _).setCell (p := ⟨q0, 2, none⟩) (.inr HQ.out) _).setCell (p := ⟨q0, 3, none⟩) (.inr HQ.out) _)⟩
    · have hem2 : S.toList.isEmpty = false := by rw [hem]; exact decide_eq_false hl0
      have HL0 : Hid (decide (l ≠ []) = true) := Lib.hid (decide_eq_true hl0)
      clear hem hl0
      by_cases htx : TXT = l
      · have hq1 : ((strOf TXT).toList == S.toList) = true := by rw [heq]; exact decide_eq_true htx
        have hq2 : ((strOf TXT).toList != S.toList) = false := by rw [bne, hq1]; rfl
        have HN : Hid (nodOk l = true) := Lib.hid (by rw [HOK.out, HL0.out, decide_eq_true htx]; rfl)
        have HNN : Hid (nodN l = NodN.mk 0 0 0 ⟨#[]⟩) := Lib.hid (by unfold nodN; rw [if_pos HN.out, HPRE.out])
        clear heq htx hTXT
        go_wp2_with fail
        refine (HTX.out _).mono ?_
        rintro e wt ⟨rfl, hut⟩
        have HBT := Lib.hid (HB1.out.upd hut (by simp))
        have HUT := Lib.hid (HU1.out.then hut)
        clear hut k0 k1 k2 k3 g0 g1 g2 g3
        have k0 := HBT.out.cell 0 rfl
        have k1 := HBT.out.cell 1 rfl
        have k2 := HBT.out.cell 2 rfl
        have k3 := HBT.out.cell 3 rfl
        have g0 := HBT.out.frz 0
        have g1 := HBT.out.frz 1
        have g2 := HBT.out.frz 2
        have g3 := HBT.out.frz 3
        go_wp2
        refine bodyPost_ret (results_nd rfl _ _ q0 ⟨0, 0, 0, ⟨#[]⟩⟩ rfl ((((HBT.out.set 0 (.int .i64 0)).set 1 (.int .i64 0)).set 2 (.int .u32 0)).set 3 (.string ⟨#[]⟩))) rfl ?_
        exact ⟨by rw [HNN.out, HN.out]; rfl, ((((HUT.out.setCell (p := ⟨q0, 0, none⟩) (.inr HQ.out) _).setCell (p := ⟨q0, 1, none⟩) (.inr HQ.out) _).setCell (p := ⟨q0, 2, none⟩) (.inr HQ.out) _).setCell (p := ⟨q0, 3, none⟩) (.inr HQ.out) _)⟩
      · have hq1 : ((strOf TXT).toList == S.toList) = false := by rw [heq]; exact decide_eq_false htx
        have hq2 : ((strOf TXT).toList != S.toList) = true := by rw [bne, hq1]; rfl
        have HN : Hid (nodOk l = false) := Lib.hid (by rw [HOK.out, HL0.out, decide_eq_false htx]; rfl)
        clear heq htx hTXT
        go_wp2_with fail
        refine (HTX.out _).mono ?_
        rintro e wt ⟨rfl, hut⟩
        have HBT := Lib.hid (HB1.out.upd hut (by simp))
        have HUT := Lib.hid (HU1.out.then hut)
        clear hut k0 k1 k2 k3 g0 g1 g2 g3
        have k0 := HBT.out.cell 0 rfl
        have k1 := HBT.out.cell 1 rfl
        have k2 := HBT.out.cell 2 rfl
        have k3 := HBT.out.cell 3 rfl
        have g0 := HBT.out.frz 0
        have g1 := HBT.out.frz 1
        have g2 := HBT.out.frz 2
        have g3 := HBT.out.frz 3
        go_wp2
        refine bodyPost_ret (results_nd rfl _ _ q0 NodN.no rfl ((((HBT.out.set 0 (.int .i64 0)).set 1 (.int .i64 0)).set 2 (.int .u32 0)).set 3 (.string ⟨#[]⟩))) rfl ?_
        exact ⟨by rw [nodN_no HN.out, HN.out]; rfl, ((((HUT.out.setCell (p := ⟨q0, 0, none⟩) (.inr HQ.out) _).setCell (p := ⟨q0, 1, none⟩) (.inr HQ.out) _).setCell (p := ⟨q0, 2, none⟩) (.inr HQ.out) _).setCell (p := ⟨q0, 3, none⟩) (.inr HQ.out) _)⟩
  · obtain ⟨g, o, had, d1⟩ := HC.out 1 (by omega)
    subst had
    have hgq : g ≠ q0 := fun e => hne (by rw [e]; rfl)
    have HGL : Hid (g < w1.heap.size) := Lib.hid (textCell_lt d1)
    have HG1 := Lib.hid d1
    obtain ⟨a1, ha1⟩ : ∃ a, ps[1] = a := ⟨_, rfl⟩
    rw [ha1] at HG1
    have q1 : bytesOf (strOf a1) = a1 := bytesOf_strOf _ (by rw [← ha1]; exact (HPP.out _ (List.getElem_mem (by omega))).2)
    have z1 : (strOf a1).size ≤ 100000 := by rw [size_strOf, ← ha1]; exact Nat.le_trans (HPP.out _ (List.getElem_mem (by omega))).1 hs
    have HM := mode14_any (strOf a1)
    rw [q1] at HM
    have HM := Lib.hid (fun w => HM w (by omega))
    unfold modeV at HM
    have n1 := modeP_lt512 a1
    clear d1 q1 z1
    have hz2 : (ps.length : Int) = 2 := by omega
    have HPRE : Hid (NodN.pre l = NodN.mk 2 ((modeP a1).1 : Nat) 0 ⟨#[]⟩) := Lib.hid (by
      unfold NodN.pre
      rw [HPS.out, if_pos h2, getD_atS ps 1 (by omega), ha1])
    obtain ⟨m, hmm⟩ : ∃ m, (modeP a1).1 = m := ⟨_, rfl⟩
    rw [hmm] at HPRE HM n1
    generalize (modeP a1).2 = mb at *
    generalize strOf a1 = S1 at *
    clear hmm ha1
    have c0 := HB1.out.cell 0 rfl
    have f0 := HB1.out.frz 0
    have hp1 : (1 : Int) < (ps.length : Int) := by omega
    go_upto_region 5 with fail
    have HB2 := Lib.hid (HB1.out.set 0 (.int .i64 2))
    have HU2 := Lib.hid (HU1.out.setCell (p := ⟨q0, 0, none⟩) (.inr HQ.out) (.int .i64 2))
    have hUq : Upd [q0] w1 (w1.setCell ⟨q0, 0, none⟩ (.int .i64 2)) := (Upd.refl [q0] w1).setCell (.inl (by simp)) _
    have d1 := (hUq.at HGL.out (by simp; exact hgq) (o + 1)).trans HG1.out
    simp only [List.set_cons_zero, List.set_cons_succ] at HB2
    clear c0 f0 hUq HB1 HU1
    generalize w1.setCell ⟨q0, 0, none⟩ (.int .i64 2) = w2 at *
    go_wp2_with fail
    refine (HM.out _).mono ?_
    rintro e w3 ⟨rfl, hu3⟩
    have HB3 := Lib.hid (HB2.out.upd hu3 (by simp))
    have HU3 := Lib.hid (HU2.out.then hu3)
    clear hu3 HB2 HU2 d1 HM
    have c1 := HB3.out.cell 1 rfl
    have f1 := HB3.out.frz 1
    go_upto_region 11 with fail
    have HB4 := Lib.hid (HB3.out.set 1 (.int .i64 (m : Nat)))
    have HU4 := Lib.hid (HU3.out.setCell (p := ⟨q0, 1, none⟩) (.inr HQ.out) (.int .i64 (m : Nat)))
    simp only [List.set_cons_zero, List.set_cons_succ] at HB4
    clear c1 f1 HB3 HU3
    generalize w3.setCell ⟨q0, 1, none⟩ (.int .i64 (m : Nat)) = w4 at *

    have HTX := Lib.hid (fun w => stext_any 2 (m : Nat) 0 ⟨#[]⟩ w (by omega) (by simp [ByteArray.size]))
    have HOK : Hid (nodOk l = (decide (l ≠ []) && decide ((NodN.mk 2 (m : Nat) 0 ⟨#[]⟩).text = l))) := Lib.hid (by unfold nodOk; rw [HPRE.out, Bool.decide_and])
    have HTL := NodN.text_lt (NodN.mk 2 (m : Nat) 0 ⟨#[]⟩)
    have heq := HEQ.out _ HTL
    have k0 := HB4.out.cell 0 rfl
    have k1 := HB4.out.cell 1 rfl
    have k2 := HB4.out.cell 2 rfl
    have k3 := HB4.out.cell 3 rfl
    have g0 := HB4.out.frz 0
    have g1 := HB4.out.frz 1
    have g2 := HB4.out.frz 2
    have g3 := HB4.out.frz 3
    obtain ⟨TXT, hTXT⟩ : ∃ TXT, (NodN.mk 2 (m : Nat) 0 ⟨#[]⟩).text = TXT := ⟨_, rfl⟩
    rw [hTXT] at HTX HOK heq
    unfold nodeV at HTX
    clear HTL
    by_cases hl0 : l = []
    · have hem2 : S.toList.isEmpty = true := by rw [hem]; exact decide_eq_true hl0
      have HN : Hid (nodOk l = false) := Lib.hid (by rw [HOK.out, decide_eq_false (by simpa using hl0)]; rfl)
      clear hem hl0 HTX heq
      go_wp2
      refine bodyPost_ret (results_nd rfl _ _ q0 NodN.no rfl ((((HB4.out.set 0 (.int .i64 0)).set 1 (.int .i64 0)).set 2 (.int .u32 0)).set 3 (.string ⟨#[]⟩))) rfl ?_
      exact ⟨by rw [nodN_no HN.out, HN.out]; rfl, ((((HU4.out.setCell (p := ⟨q0, 0, none⟩) (.inr HQ.out) _).setCell (p := ⟨q0, 1, none⟩) (.inr HQ.out) _).setCell (p := ⟨q0, 2, none⟩) (.inr HQ.out) _).setCell (p := ⟨q0, 3, none⟩) (.inr HQ.out) _)⟩
    · have hem2 : S.toList.isEmpty = false := by rw [hem]; exact decide_eq_false hl0
      have HL0 : Hid (decide (l ≠ []) = true) := Lib.hid (decide_eq_true hl0)
      clear hem hl0
      by_cases htx : TXT = l
      · have hq1 : ((strOf TXT).toList == S.toList) = true := by rw [heq]; exact decide_eq_true htx
        have hq2 : ((strOf TXT).toList != S.toList) = false := by rw [bne, hq1]; rfl
        have HN : Hid (nodOk l = true) := Lib.hid (by rw [HOK.out, HL0.out, decide_eq_true htx]; rfl)
        have HNN : Hid (nodN l = NodN.mk 2 (m : Nat) 0 ⟨#[]⟩) := Lib.hid (by unfold nodN; rw [if_pos HN.out, HPRE.out])
        clear heq htx hTXT
        go_wp2_with fail
        refine (HTX.out _).mono ?_
        rintro e wt ⟨rfl, hut⟩
        have HBT := Lib.hid (HB4.out.upd hut (by simp))
        have HUT := Lib.hid (HU4.out.then hut)
        clear hut k0 k1 k2 k3 g0 g1 g2 g3
        have k0 := HBT.out.cell 0 rfl
        have k1 := HBT.out.cell 1 rfl
        have k2 := HBT.out.cell 2 rfl
        have k3 := HBT.out.cell 3 rfl
        have g0 := HBT.out.frz 0
        have g1 := HBT.out.frz 1
        have g2 := HBT.out.frz 2
        have g3 := HBT.out.frz 3
        go_wp2
        refine bodyPost_ret (results_nd rfl _ _ q0 ⟨2, (m : Nat), 0, ⟨#[]⟩⟩ rfl ((((HBT.out.set 0 (.int .i64 2)).set 1 (.int .i64 (m : Nat))).set 2 (.int .u32 0)).set 3 (.string ⟨#[]⟩))) rfl ?_
        exact ⟨by rw [HNN.out, HN.out]; rfl, ((((HUT.out.setCell (p := ⟨q0, 0, none⟩) (.inr HQ.out) _).setCell (p := ⟨q0, 1, none⟩) (.inr HQ.out) _).setCell (p := ⟨q0, 2, none⟩) (.inr HQ.out) _).setCell (p := ⟨q0, 3, none⟩) (.inr HQ.out) _)⟩
      · have hq1 : ((strOf TXT).toList == S.toList) = false := by rw [heq]; exact decide_eq_false htx
        have hq2 : ((strOf TXT).toList != S.toList) = true := by rw [bne, hq1]; rfl
        have HN : Hid (nodOk l = false) := Lib.hid (by rw [HOK.out, HL0.out, decide_eq_false htx]; rfl)
        clear heq htx hTXT
        go_wp2_with fail
        refine (HTX.out _).mono ?_
        rintro e wt ⟨rfl, hut⟩
        have HBT := Lib.hid (HB4.out.upd hut (by simp))
        have HUT := Lib.hid (HU4.out.then hut)
        clear hut k0 k1 k2 k3 g0 g1 g2 g3
        have k0 := HBT.out.cell 0 rfl
        have k1 := HBT.out.cell 1 rfl
        have k2 := HBT.out.cell 2 rfl
        have k3 := HBT.out.cell 3 rfl
        have g0 := HBT.out.frz 0
        have g1 := HBT.out.frz 1
        have g2 := HBT.out.frz 2
        have g3 := HBT.out.frz 3
        go_wp2
        refine bodyPost_ret (results_nd rfl _ _ q0 NodN.no rfl ((((HBT.out.set 0 (.int .i64 0)).set 1 (.int .i64 0)).set 2 (.int .u32 0)).set 3 (.string ⟨#[]⟩))) rfl ?_
        exact ⟨by rw [nodN_no HN.out, HN.out]; rfl, ((((HUT.out.setCell (p := ⟨q0, 0, none⟩) (.inr HQ.out) _).setCell (p := ⟨q0, 1, none⟩) (.inr HQ.out) _).setCell (p := ⟨q0, 2, none⟩) (.inr HQ.out) _).setCell (p := ⟨q0, 3, none⟩) (.inr HQ.out) _)⟩
  · by_cases h5 : ps.length = 5
    · obtain ⟨g, o, had, d1⟩ := HC.out 1 (by omega)
      subst had
      have hgq : g ≠ q0 := fun e => hne (by rw [e]; rfl)
      have HGL : Hid (g < w1.heap.size) := Lib.hid (textCell_lt d1)
      have HG1 := Lib.hid d1
      obtain ⟨a1, ha1⟩ : ∃ a, ps[1] = a := ⟨_, rfl⟩
      rw [ha1] at HG1
      have q1 : bytesOf (strOf a1) = a1 := bytesOf_strOf _ (by rw [← ha1]; exact (HPP.out _ (List.getElem_mem (by omega))).2)
      have z1 : (strOf a1).size ≤ 100000 := by rw [size_strOf, ← ha1]; exact Nat.le_trans (HPP.out _ (List.getElem_mem (by omega))).1 hs
      have HM := mode14_any (strOf a1)
      rw [q1] at HM
      have HM := Lib.hid (fun w => HM w (by omega))
      unfold modeV at HM
      have n1 := modeP_lt512 a1
      clear d1 q1 z1
      obtain ⟨g', o', had, d2⟩ := HC.out 2 (by omega)
      cases had
      obtain ⟨g', o', had, d3⟩ := HC.out 3 (by omega)
      cases had
      obtain ⟨g', o', had, d4⟩ := HC.out 4 (by omega)
      cases had
      have HG2 := Lib.hid d2
      have HG3 := Lib.hid d3
      have HG4 := Lib.hid d4
      obtain ⟨a2, ha2⟩ : ∃ a, ps[2] = a := ⟨_, rfl⟩
      obtain ⟨a3, ha3⟩ : ∃ a, ps[3] = a := ⟨_, rfl⟩
      obtain ⟨a4, ha4⟩ : ∃ a, ps[4] = a := ⟨_, rfl⟩
      rw [ha2] at HG2
      rw [ha3] at HG3
      rw [ha4] at HG4
      have b2 := HPP.out _ (List.getElem_mem (show 2 < ps.length by omega))
      have b3 := HPP.out _ (List.getElem_mem (show 3 < ps.length by omega))
      have b4 := HPP.out _ (List.getElem_mem (show 4 < ps.length by omega))
      rw [ha2] at b2
      rw [ha3] at b3
      rw [ha4] at b4
      have z : ∀ l : List Nat, (strOf l).size = l.length := size_strOf
      have q4 : bytesOf (strOf a4) = a4 := bytesOf_strOf _ b4.2
      have q23 : bytesOf (strOf (a2 ++ [32] ++ a3)) = a2 ++ [32] ++ a3 := bytesOf_strOf _ (by
        intro x h
        simp only [List.mem_append, List.mem_singleton] at h
        rcases h with (h | h) | h
        · exact b2.2 x h
        · omega
        · exact b3.2 x h)
      have hl2 := b2.1
      have hl3 := b3.1
      have hl4 := b4.1
      have HP := dosParse_any (strOf (a2 ++ [32] ++ a3))
      have HY := sbytes_any (strOf a4)
      rw [q23] at HP
      rw [q4] at HY
      have HP := Lib.hid (fun w => HP w (by rw [z]; simp; omega))
      have HY := Lib.hid (fun w => HY w (by rw [z]; omega))
      unfold dosParseV at HP
      have n2 := dosParseP_lt (a2 ++ [32] ++ a3)
      have HA1 : Hid (∀ w, (Op.stringOp .add (strOf a2) ({ data := #[32] } : ByteArray)).run Tryd.prog w = .ok (.string (strOf (a2 ++ [32]))) w) := Lib.hid (fun w => by
        have e : ({ data := #[32] } : ByteArray) = strOf [32] := rfl
        rw [e, run_string_add_sum _ _ _ (by rw [z, z]; simp; omega), ← strOf_cat])
      have HA2 : Hid (∀ w, (Op.stringOp .add (strOf (a2 ++ [32])) (strOf a3)).run Tryd.prog w = .ok (.string (strOf (a2 ++ [32] ++ a3))) w) := Lib.hid (fun w => by
        rw [run_string_add_sum _ _ _ (by rw [z, z]; simp; omega), ← strOf_cat])
      have hz2 : ¬ (ps.length : Int) = 2 := by omega
      have hb2 : ((ps.length : Int) == 2) = false := by simp; omega
      have hz5 : (ps.length : Int) = 5 := by omega
      have HPRE : Hid (NodN.pre l = NodN.mk 1 ((modeP a1).1 : Nat) (dosParseP (a2 ++ [32] ++ a3)).1 (strOf (bytesP a4))) := Lib.hid (by
        unfold NodN.pre
        rw [HPS.out, if_neg (by omega), if_pos h5, getD_atS ps 1 (by omega), getD_atS ps 2 (by omega), getD_atS ps 3 (by omega), getD_atS ps 4 (by omega), ha1, ha2, ha3, ha4])
      have hDD : (strOf (bytesP a4)).size ≤ 9223372036854775807 := by
        rw [z]; unfold bytesP; rw [bytesN_len]; omega
      obtain ⟨m, hmm⟩ : ∃ m, (modeP a1).1 = m := ⟨_, rfl⟩
      rw [hmm] at HPRE HM n1
      generalize (modeP a1).2 = mb at *
      generalize (dosParseP (a2 ++ [32] ++ a3)).1 = tt at *
      generalize (dosParseP (a2 ++ [32] ++ a3)).2 = tb at *
      generalize strOf (bytesP a4) = DD at *
      generalize strOf (a2 ++ [32] ++ a3) = S23 at *
      generalize strOf (a2 ++ [32]) = S2b at *
      generalize strOf a1 = S1 at *
      generalize strOf a2 = S2 at *
      generalize strOf a3 = S3 at *
      generalize strOf a4 = S4 at *
      clear hmm ha1 ha2 ha3 ha4 hl2 hl3 hl4 b2 b3 b4 z q4 q23 d2 d3 d4
      have c0 := HB1.out.cell 0 rfl
      have f0 := HB1.out.frz 0
      have hp1 : (1 : Int) < (ps.length : Int) := by omega
      have hp2 : (2 : Int) < (ps.length : Int) := by omega
      have hp3 : (3 : Int) < (ps.length : Int) := by omega
      have hp4 : (4 : Int) < (ps.length : Int) := by omega
      go_upto_region 8 with fail
      have HB2 := Lib.hid (HB1.out.set 0 (.int .i64 1))
      have HU2 := Lib.hid (HU1.out.setCell (p := ⟨q0, 0, none⟩) (.inr HQ.out) (.int .i64 1))
      have HUq := Lib.hid (show Upd [q0] w1 (w1.setCell ⟨q0, 0, none⟩ (.int .i64 1)) from (Upd.refl [q0] w1).setCell (.inl (by simp)) _)
      simp only [List.set_cons_zero, List.set_cons_succ] at HB2
      clear c0 f0 HB1 HU1
      generalize w1.setCell ⟨q0, 0, none⟩ (.int .i64 1) = w2 at *
      have d1 : _ = some (Value.string S1) := (HUq.out.at HGL.out (by simp; exact hgq) (o + 1)).trans HG1.out
      go_wp2_with fail
      refine (HM.out _).mono ?_
      rintro e w3 ⟨rfl, hu3⟩
      have HB3 := Lib.hid (HB2.out.upd hu3 (by simp))
      have HU3 := Lib.hid (HU2.out.then hu3)
      have HUq3 := Lib.hid (HUq.out.then (hu3.mono (fun k hk => by simp at hk)))
      clear hu3 HB2 HU2 HUq d1 HM
      have c1 := HB3.out.cell 1 rfl
      have f1 := HB3.out.frz 1
      go_upto_region 9 with fail
      have HB4 := Lib.hid (HB3.out.set 1 (.int .i64 (m : Nat)))
      have HU4 := Lib.hid (HU3.out.setCell (p := ⟨q0, 1, none⟩) (.inr HQ.out) (.int .i64 (m : Nat)))
      have HUq4 := Lib.hid (HUq3.out.setCell (p := ⟨q0, 1, none⟩) (.inl (by simp)) (.int .i64 (m : Nat)))
      simp only [List.set_cons_zero, List.set_cons_succ] at HB4
      clear c1 f1 HB3 HU3 HUq3
      generalize w3.setCell ⟨q0, 1, none⟩ (.int .i64 (m : Nat)) = w4 at *
      have a1' := HA1.out
      have a2' := HA2.out
      refine wp_region_held_drew (S := fun w' => ∃ x, Blk w' q0 [.int .i64 1, .int .i64 m, x, .string ⟨#[]⟩] 31 ∧ Upd [] w w' ∧ Upd [q0] w1 w') (by kernel_rfl) ⟨_, HB4.out, HU4.out.drew, HUq4.out.drew⟩ (fun hHeld => ?_)
      change wpAnyH _ _ _ _ _ 14 #[false, false, false, false, false, false, false, false, false, false, false, false, false, false] _ _
      refine heldTake (i := 0) (d := some 32) (v := ?v0_1) rfl rfl (by kernel_rfl) (by kernel_rfl) (by kernel_rfl) (fun _ _ _ h => h) (by rfl) ?hy0_1 (by assumption) ?r0_1
      case hy0_1 => (intro w hSw; (try dsimp only at hSw); go_simp; try with_reducible rfl)
      try simp only [Act.put, List.setIfInBounds_toArray, List.set_cons_zero, List.set_cons_succ]
      change wpAnyH _ _ _ _ _ 13 #[true, false, false, false, false, false, false, false, false, false, false, false, false, false] _ _
      refine heldTake (i := 1) (d := some 33) (v := ?v1_2) rfl rfl (by kernel_rfl) (by kernel_rfl) (by kernel_rfl) (fun _ _ _ h => h) (by rfl) ?hy1_2 (by assumption) ?r1_2
      case hy1_2 => (intro w hSw; (try dsimp only at hSw); go_simp; try with_reducible rfl)
      try simp only [Act.put, List.setIfInBounds_toArray, List.set_cons_zero, List.set_cons_succ]
      change wpAnyH _ _ _ _ _ 12 #[true, true, false, false, false, false, false, false, false, false, false, false, false, false] _ _
      refine heldTake (i := 2) (d := some 34) (v := ?v2_3) rfl rfl (by kernel_rfl) (by kernel_rfl) (by kernel_rfl) (fun _ _ _ h => h) (by rfl) ?hy2_3 (by assumption) ?r2_3
      case hy2_3 => (intro w5 hSw; obtain ⟨x5, hB5, hU5, hV5⟩ := hSw; have d5 : _ = some (Value.string S2) := (hV5.at HGL.out (by simp; exact hgq) (o + 2)).trans HG2.out; go_simp; try with_reducible rfl)
      try simp only [Act.put, List.setIfInBounds_toArray, List.set_cons_zero, List.set_cons_succ]
      change wpAnyH _ _ _ _ _ 11 #[true, true, true, false, false, false, false, false, false, false, false, false, false, false] _ _
      refine heldTake (i := 3) (d := some 35) (v := ?v3_4) rfl rfl (by kernel_rfl) (by kernel_rfl) (by kernel_rfl) (fun _ _ _ h => h) (by rfl) ?hy3_4 (by assumption) ?r3_4
      case hy3_4 => (intro w hSw; (try dsimp only at hSw); go_simp; try with_reducible rfl)
      try simp only [Act.put, List.setIfInBounds_toArray, List.set_cons_zero, List.set_cons_succ]
      change wpAnyH _ _ _ _ _ 10 #[true, true, true, true, false, false, false, false, false, false, false, false, false, false] _ _
      refine heldTake (i := 4) (d := some 36) (v := ?v4_5) rfl rfl (by kernel_rfl) (by kernel_rfl) (by kernel_rfl) (fun _ _ _ h => h) (by rfl) ?hy4_5 (by assumption) ?r4_5
      case hy4_5 => (intro w hSw; (try dsimp only at hSw); go_simp; try with_reducible rfl)
      try simp only [Act.put, List.setIfInBounds_toArray, List.set_cons_zero, List.set_cons_succ]
      change wpAnyH _ _ _ _ _ 9 #[true, true, true, true, true, false, false, false, false, false, false, false, false, false] _ _
      refine heldTake (i := 5) (d := some 37) (v := ?v5_6) rfl rfl (by kernel_rfl) (by kernel_rfl) (by kernel_rfl) (fun _ _ _ h => h) (by rfl) ?hy5_6 (by assumption) ?r5_6
      case hy5_6 => (intro w hSw; (try dsimp only at hSw); go_simp; try with_reducible rfl)
      try simp only [Act.put, List.setIfInBounds_toArray, List.set_cons_zero, List.set_cons_succ]
      change wpAnyH _ _ _ _ _ 8 #[true, true, true, true, true, true, false, false, false, false, false, false, false, false] _ _
      refine heldTake (i := 6) (d := some 38) (v := ?v6_7) rfl rfl (by kernel_rfl) (by kernel_rfl) (by kernel_rfl) (fun _ _ _ h => h) (by rfl) ?hy6_7 (by assumption) ?r6_7
      case hy6_7 => (intro w5 hSw; obtain ⟨x5, hB5, hU5, hV5⟩ := hSw; have d5 : _ = some (Value.string S3) := (hV5.at HGL.out (by simp; exact hgq) (o + 3)).trans HG3.out; go_simp; try with_reducible rfl)
      try simp only [Act.put, List.setIfInBounds_toArray, List.set_cons_zero, List.set_cons_succ]
      change wpAnyH _ _ _ _ _ 7 #[true, true, true, true, true, true, true, false, false, false, false, false, false, false] _ _
      refine heldTake (i := 7) (d := some 39) (v := ?v7_8) rfl rfl (by kernel_rfl) (by kernel_rfl) (by kernel_rfl) (fun _ _ _ h => h) (by rfl) ?hy7_8 (by assumption) ?r7_8
      case hy7_8 => (intro w hSw; (try dsimp only at hSw); go_simp; try with_reducible rfl)
      try simp only [Act.put, List.setIfInBounds_toArray, List.set_cons_zero, List.set_cons_succ]
      change wpAnyH _ _ _ _ _ 6 #[true, true, true, true, true, true, true, true, false, false, false, false, false, false] _ _
      refine wpAnyH_ready (rs := [8]) (by kernel_rfl) (by simp) ?_
      refine AllReadyH.cons rfl (fun K hK => ?_) AllReadyH.nil
      go_simp
      refine (HP.out _).mono ?_
      rintro e z9 ⟨rfl, hz9⟩
      obtain ⟨x9, hB9, hU9, hV9⟩ := hHeld
      go_wp2
      refine hK.out _ _ ⟨x9, hB9.upd hz9 (by simp), hU9.then hz9, hV9.then (hz9.mono (fun k hk => by simp at hk))⟩ (fun hHeld => ?_)
      clear hK K
      try simp only [Act.put, List.setIfInBounds_toArray, List.set_cons_zero, List.set_cons_succ]
      change wpAnyH _ _ _ _ _ 5 #[true, true, true, true, true, true, true, true, true, false, false, false, false, false] _ _
      refine heldTake (i := 9) (d := some 31) (v := ?v9_10) rfl rfl (by kernel_rfl) (by kernel_rfl) (by kernel_rfl) (fun _ _ _ h => h) (by rfl) ?hy9_10 (by assumption) ?r9_10
      case hy9_10 => (intro w hSw; (try dsimp only at hSw); go_simp; try with_reducible rfl)
      try simp only [Act.put, List.setIfInBounds_toArray, List.set_cons_zero, List.set_cons_succ]
      change wpAnyH _ _ _ _ _ 4 #[true, true, true, true, true, true, true, true, true, true, false, false, false, false] _ _
      refine heldTake (i := 10) (d := some 41) (v := ?v10_11) rfl rfl (by kernel_rfl) (by kernel_rfl) (by kernel_rfl) (fun _ _ _ h => h) (by rfl) ?hy10_11 (by assumption) ?r10_11
      case hy10_11 => (intro w hSw; (try dsimp only at hSw); go_simp; try with_reducible rfl)
      try simp only [Act.put, List.setIfInBounds_toArray, List.set_cons_zero, List.set_cons_succ]
      change wpAnyH _ _ _ _ _ 3 #[true, true, true, true, true, true, true, true, true, true, true, false, false, false] _ _
      refine heldTake (i := 11) (d := some 42) (v := ?v11_12) rfl rfl (by kernel_rfl) (by kernel_rfl) (by kernel_rfl) (fun _ _ _ h => h) (by rfl) ?hy11_12 (by assumption) ?r11_12
      case hy11_12 => (intro w hSw; (try dsimp only at hSw); go_simp; try with_reducible rfl)
      try simp only [Act.put, List.setIfInBounds_toArray, List.set_cons_zero, List.set_cons_succ]
      change wpAnyH _ _ _ _ _ 2 #[true, true, true, true, true, true, true, true, true, true, true, true, false, false] _ _
      refine heldTake (i := 12) (d := some 43) (v := ?v12_13) rfl rfl (by kernel_rfl) (by kernel_rfl) (by kernel_rfl) (fun _ _ _ h => h) (by rfl) ?hy12_13 (by assumption) ?r12_13
      case hy12_13 => (intro w hSw; (try dsimp only at hSw); go_simp; try with_reducible rfl)
      try simp only [Act.put, List.setIfInBounds_toArray, List.set_cons_zero, List.set_cons_succ]
      change wpAnyH _ _ _ _ _ 1 #[true, true, true, true, true, true, true, true, true, true, true, true, true, false] _ _
      refine wpAnyH_ready (rs := [13]) (by kernel_rfl) (by simp) ?_
      refine AllReadyH.cons rfl (fun K hK => ?_) AllReadyH.nil
      go_simp
      obtain ⟨x9, hB9, hU9, hV9⟩ := hHeld
      have c2 := hB9.cell 2 rfl
      have f2 := hB9.frz 2
      simp only [c2, f2, Bool.false_eq_true, ↓reduceIte]
      have HB5 := Lib.hid (Blk.set hB9 2 (.int .u32 tt))
      have HU5 := Lib.hid (Upd.setCell hU9 (p := ⟨q0, 2, none⟩) (.inr HQ.out) (.int .u32 tt))
      have HV5 := Lib.hid (Upd.setCell hV9 (p := ⟨q0, 2, none⟩) (.inl (by simp)) (.int .u32 tt))
      go_wp2
      refine hK.out _ _ ⟨.int .u32 tt, hB9.set 2 (.int .u32 tt), Upd.setCell hU9 (p := ⟨q0, 2, none⟩) (.inr HQ.out) (.int .u32 tt), Upd.setCell hV9 (p := ⟨q0, 2, none⟩) (.inl (by simp)) (.int .u32 tt)⟩ (fun hHeld => ?_)
      clear hK K
      try simp only [Act.put, List.setIfInBounds_toArray, List.set_cons_zero, List.set_cons_succ]
      change wpAnyH _ _ _ _ _ 0 #[true, true, true, true, true, true, true, true, true, true, true, true, true, true] _ _
      refine wpAnyH_done (by kernel_rfl) ?_ 0
      clear hHeld c2 f2 hB9 hU9 hV9
      generalize z9.setCell ⟨q0, 2, none⟩ (.int .u32 tt) = w5 at *
      clear a1' a2'
      simp only [List.set_cons_zero, List.set_cons_succ] at HB5
      have d4 : _ = some (Value.string S4) := (HV5.out.at HGL.out (by simp; exact hgq) (o + 4)).trans HG4.out
      go_wp2_with fail
      refine (HY.out _).mono ?_
      rintro e w6 ⟨rfl, hu6⟩
      have HB6 := Lib.hid (HB5.out.upd hu6 (by simp))
      have HU6 := Lib.hid (HU5.out.then hu6)
      clear hu6 HB5 HU5 HV5 d4
      have c3 := HB6.out.cell 3 rfl
      have f3 := HB6.out.frz 3
      go_upto_region 11 with fail
      have HB7 := Lib.hid (HB6.out.set 3 (.string DD))
      have HU7 := Lib.hid (HU6.out.setCell (p := ⟨q0, 3, none⟩) (.inr HQ.out) (.string DD))
      simp only [List.set_cons_zero, List.set_cons_succ] at HB7
      clear c3 f3 HB6 HU6
      generalize w6.setCell ⟨q0, 3, none⟩ (.string DD) = w7 at *

      have HTX := Lib.hid (fun w => stext_any 1 (m : Nat) tt DD w n2 hDD)
      have HOK : Hid (nodOk l = (decide (l ≠ []) && decide ((NodN.mk 1 (m : Nat) tt DD).text = l))) := Lib.hid (by unfold nodOk; rw [HPRE.out, Bool.decide_and])
      have HTL := NodN.text_lt (NodN.mk 1 (m : Nat) tt DD)
      have heq := HEQ.out _ HTL
      have k0 := HB7.out.cell 0 rfl
      have k1 := HB7.out.cell 1 rfl
      have k2 := HB7.out.cell 2 rfl
      have k3 := HB7.out.cell 3 rfl
      have g0 := HB7.out.frz 0
      have g1 := HB7.out.frz 1
      have g2 := HB7.out.frz 2
      have g3 := HB7.out.frz 3
      obtain ⟨TXT, hTXT⟩ : ∃ TXT, (NodN.mk 1 (m : Nat) tt DD).text = TXT := ⟨_, rfl⟩
      rw [hTXT] at HTX HOK heq
      unfold nodeV at HTX
      clear HTL
      by_cases hl0 : l = []
      · have hem2 : S.toList.isEmpty = true := by rw [hem]; exact decide_eq_true hl0
        have HN : Hid (nodOk l = false) := Lib.hid (by rw [HOK.out, decide_eq_false (by simpa using hl0)]; rfl)
        clear hem hl0 HTX heq
        go_wp2
        refine bodyPost_ret (results_nd rfl _ _ q0 NodN.no rfl ((((HB7.out.set 0 (.int .i64 0)).set 1 (.int .i64 0)).set 2 (.int .u32 0)).set 3 (.string ⟨#[]⟩))) rfl ?_
        exact ⟨by rw [nodN_no HN.out, HN.out]; rfl, ((((HU7.out.setCell (p := ⟨q0, 0, none⟩) (.inr HQ.out) _).setCell (p := ⟨q0, 1, none⟩) (.inr HQ.out) _).setCell (p := ⟨q0, 2, none⟩) (.inr HQ.out) _).setCell (p := ⟨q0, 3, none⟩) (.inr HQ.out) _)⟩
      · have hem2 : S.toList.isEmpty = false := by rw [hem]; exact decide_eq_false hl0
        have HL0 : Hid (decide (l ≠ []) = true) := Lib.hid (decide_eq_true hl0)
        clear hem hl0
        by_cases htx : TXT = l
        · have hq1 : ((strOf TXT).toList == S.toList) = true := by rw [heq]; exact decide_eq_true htx
          have hq2 : ((strOf TXT).toList != S.toList) = false := by rw [bne, hq1]; rfl
          have HN : Hid (nodOk l = true) := Lib.hid (by rw [HOK.out, HL0.out, decide_eq_true htx]; rfl)
          have HNN : Hid (nodN l = NodN.mk 1 (m : Nat) tt DD) := Lib.hid (by unfold nodN; rw [if_pos HN.out, HPRE.out])
          clear heq htx hTXT
          go_wp2_with fail
          refine (HTX.out _).mono ?_
          rintro e wt ⟨rfl, hut⟩
          have HBT := Lib.hid (HB7.out.upd hut (by simp))
          have HUT := Lib.hid (HU7.out.then hut)
          clear hut k0 k1 k2 k3 g0 g1 g2 g3
          have k0 := HBT.out.cell 0 rfl
          have k1 := HBT.out.cell 1 rfl
          have k2 := HBT.out.cell 2 rfl
          have k3 := HBT.out.cell 3 rfl
          have g0 := HBT.out.frz 0
          have g1 := HBT.out.frz 1
          have g2 := HBT.out.frz 2
          have g3 := HBT.out.frz 3
          go_wp2
          refine bodyPost_ret (results_nd rfl _ _ q0 ⟨1, (m : Nat), tt, DD⟩ rfl ((((HBT.out.set 0 (.int .i64 1)).set 1 (.int .i64 (m : Nat))).set 2 (.int .u32 (tt : Nat))).set 3 (.string DD))) rfl ?_
          exact ⟨by rw [HNN.out, HN.out]; rfl, ((((HUT.out.setCell (p := ⟨q0, 0, none⟩) (.inr HQ.out) _).setCell (p := ⟨q0, 1, none⟩) (.inr HQ.out) _).setCell (p := ⟨q0, 2, none⟩) (.inr HQ.out) _).setCell (p := ⟨q0, 3, none⟩) (.inr HQ.out) _)⟩
        · have hq1 : ((strOf TXT).toList == S.toList) = false := by rw [heq]; exact decide_eq_false htx
          have hq2 : ((strOf TXT).toList != S.toList) = true := by rw [bne, hq1]; rfl
          have HN : Hid (nodOk l = false) := Lib.hid (by rw [HOK.out, HL0.out, decide_eq_false htx]; rfl)
          clear heq htx hTXT
          go_wp2_with fail
          refine (HTX.out _).mono ?_
          rintro e wt ⟨rfl, hut⟩
          have HBT := Lib.hid (HB7.out.upd hut (by simp))
          have HUT := Lib.hid (HU7.out.then hut)
          clear hut k0 k1 k2 k3 g0 g1 g2 g3
          have k0 := HBT.out.cell 0 rfl
          have k1 := HBT.out.cell 1 rfl
          have k2 := HBT.out.cell 2 rfl
          have k3 := HBT.out.cell 3 rfl
          have g0 := HBT.out.frz 0
          have g1 := HBT.out.frz 1
          have g2 := HBT.out.frz 2
          have g3 := HBT.out.frz 3
          go_wp2
          refine bodyPost_ret (results_nd rfl _ _ q0 NodN.no rfl ((((HBT.out.set 0 (.int .i64 0)).set 1 (.int .i64 0)).set 2 (.int .u32 0)).set 3 (.string ⟨#[]⟩))) rfl ?_
          exact ⟨by rw [nodN_no HN.out, HN.out]; rfl, ((((HUT.out.setCell (p := ⟨q0, 0, none⟩) (.inr HQ.out) _).setCell (p := ⟨q0, 1, none⟩) (.inr HQ.out) _).setCell (p := ⟨q0, 2, none⟩) (.inr HQ.out) _).setCell (p := ⟨q0, 3, none⟩) (.inr HQ.out) _)⟩
    · have hz2 : ¬ (ps.length : Int) = 2 := by omega
      have hz5 : ¬ (ps.length : Int) = 5 := by omega
      have hb2 : ((ps.length : Int) == 2) = false := by simp; omega
      have hb5 : ((ps.length : Int) == 5) = false := by simp; omega
      have HPRE : Hid (NodN.pre l = NodN.mk 0 0 0 ⟨#[]⟩) := Lib.hid (by unfold NodN.pre; rw [HPS.out, if_neg (by omega), if_neg (by omega)]; rfl)
      go_upto_region 11 with fail

      have HTX := Lib.hid (fun w => stext_any 0 0 0 ⟨#[]⟩ w (by omega) (by simp [ByteArray.size]))
      have HOK : Hid (nodOk l = (decide (l ≠ []) && decide ((NodN.mk 0 0 0 ⟨#[]⟩).text = l))) := Lib.hid (by unfold nodOk; rw [HPRE.out, Bool.decide_and])
      have HTL := NodN.text_lt (NodN.mk 0 0 0 ⟨#[]⟩)
      have heq := HEQ.out _ HTL
      have k0 := HB1.out.cell 0 rfl
      have k1 := HB1.out.cell 1 rfl
      have k2 := HB1.out.cell 2 rfl
      have k3 := HB1.out.cell 3 rfl
      have g0 := HB1.out.frz 0
      have g1 := HB1.out.frz 1
      have g2 := HB1.out.frz 2
      have g3 := HB1.out.frz 3
      obtain ⟨TXT, hTXT⟩ : ∃ TXT, (NodN.mk 0 0 0 ⟨#[]⟩).text = TXT := ⟨_, rfl⟩
      rw [hTXT] at HTX HOK heq
      unfold nodeV at HTX
      clear HTL
      by_cases hl0 : l = []
      · have hem2 : S.toList.isEmpty = true := by rw [hem]; exact decide_eq_true hl0
        have HN : Hid (nodOk l = false) := Lib.hid (by rw [HOK.out, decide_eq_false (by simpa using hl0)]; rfl)
        clear hem hl0 HTX heq
        go_wp2
        refine bodyPost_ret (results_nd rfl _ _ q0 NodN.no rfl ((((HB1.out.set 0 (.int .i64 0)).set 1 (.int .i64 0)).set 2 (.int .u32 0)).set 3 (.string ⟨#[]⟩))) rfl ?_
        exact ⟨by rw [nodN_no HN.out, HN.out]; rfl, ((((HU1.out.setCell (p := ⟨q0, 0, none⟩) (.inr HQ.out) _).setCell (p := ⟨q0, 1, none⟩) (.inr HQ.out) _).setCell (p := ⟨q0, 2, none⟩) (.inr HQ.out) _).setCell (p := ⟨q0, 3, none⟩) (.inr HQ.out) _)⟩
      · have hem2 : S.toList.isEmpty = false := by rw [hem]; exact decide_eq_false hl0
        have HL0 : Hid (decide (l ≠ []) = true) := Lib.hid (decide_eq_true hl0)
        clear hem hl0
        by_cases htx : TXT = l
        · have hq1 : ((strOf TXT).toList == S.toList) = true := by rw [heq]; exact decide_eq_true htx
          have hq2 : ((strOf TXT).toList != S.toList) = false := by rw [bne, hq1]; rfl
          have HN : Hid (nodOk l = true) := Lib.hid (by rw [HOK.out, HL0.out, decide_eq_true htx]; rfl)
          have HNN : Hid (nodN l = NodN.mk 0 0 0 ⟨#[]⟩) := Lib.hid (by unfold nodN; rw [if_pos HN.out, HPRE.out])
          clear heq htx hTXT
          go_wp2_with fail
          refine (HTX.out _).mono ?_
          rintro e wt ⟨rfl, hut⟩
          have HBT := Lib.hid (HB1.out.upd hut (by simp))
          have HUT := Lib.hid (HU1.out.then hut)
          clear hut k0 k1 k2 k3 g0 g1 g2 g3
          have k0 := HBT.out.cell 0 rfl
          have k1 := HBT.out.cell 1 rfl
          have k2 := HBT.out.cell 2 rfl
          have k3 := HBT.out.cell 3 rfl
          have g0 := HBT.out.frz 0
          have g1 := HBT.out.frz 1
          have g2 := HBT.out.frz 2
          have g3 := HBT.out.frz 3
          go_wp2
          refine bodyPost_ret (results_nd rfl _ _ q0 ⟨0, 0, 0, ⟨#[]⟩⟩ rfl ((((HBT.out.set 0 (.int .i64 0)).set 1 (.int .i64 0)).set 2 (.int .u32 0)).set 3 (.string ⟨#[]⟩))) rfl ?_
          exact ⟨by rw [HNN.out, HN.out]; rfl, ((((HUT.out.setCell (p := ⟨q0, 0, none⟩) (.inr HQ.out) _).setCell (p := ⟨q0, 1, none⟩) (.inr HQ.out) _).setCell (p := ⟨q0, 2, none⟩) (.inr HQ.out) _).setCell (p := ⟨q0, 3, none⟩) (.inr HQ.out) _)⟩
        · have hq1 : ((strOf TXT).toList == S.toList) = false := by rw [heq]; exact decide_eq_false htx
          have hq2 : ((strOf TXT).toList != S.toList) = true := by rw [bne, hq1]; rfl
          have HN : Hid (nodOk l = false) := Lib.hid (by rw [HOK.out, HL0.out, decide_eq_false htx]; rfl)
          clear heq htx hTXT
          go_wp2_with fail
          refine (HTX.out _).mono ?_
          rintro e wt ⟨rfl, hut⟩
          have HBT := Lib.hid (HB1.out.upd hut (by simp))
          have HUT := Lib.hid (HU1.out.then hut)
          clear hut k0 k1 k2 k3 g0 g1 g2 g3
          have k0 := HBT.out.cell 0 rfl
          have k1 := HBT.out.cell 1 rfl
          have k2 := HBT.out.cell 2 rfl
          have k3 := HBT.out.cell 3 rfl
          have g0 := HBT.out.frz 0
          have g1 := HBT.out.frz 1
          have g2 := HBT.out.frz 2
          have g3 := HBT.out.frz 3
          go_wp2
          refine bodyPost_ret (results_nd rfl _ _ q0 NodN.no rfl ((((HBT.out.set 0 (.int .i64 0)).set 1 (.int .i64 0)).set 2 (.int .u32 0)).set 3 (.string ⟨#[]⟩))) rfl ?_
          exact ⟨by rw [nodN_no HN.out, HN.out]; rfl, ((((HUT.out.setCell (p := ⟨q0, 0, none⟩) (.inr HQ.out) _).setCell (p := ⟨q0, 1, none⟩) (.inr HQ.out) _).setCell (p := ⟨q0, 2, none⟩) (.inr HQ.out) _).setCell (p := ⟨q0, 3, none⟩) (.inr HQ.out) _)⟩
end Go.Proofs.YtigjingielnaoaaDoor
