/- The law swinglelaw35.ScriptParses: its walk. -/
import Derived.Deep.CutBlock
import Derived.Great.BuildSlice
import Derived.Test.YtigjingielnaoaaDoorSPs
import Derived.Test.YtigjingielnaoaaDoorRSm
import Derived.Test.YtigjingielnaoaaDoorQBH
import Derived.Test.YtigjingielnaoaaDoorQAB
import Derived.Deep.Slices
import Derived.Deep.Fields
import Derived.ChangeSame
import Derived.ProofKit
import Derived.OpenShut
namespace Go.Proofs.YtigjingielnaoaaDoor
set_option linter.unusedVariables false
set_option linter.unusedSimpArgs false
set_option linter.unusedSectionVars false
open Go.RowKit
set_option linter.unusedVariables false
set_option linter.unusedSimpArgs false

theorem evCells_get (M : List (List Nat × Value)) (j f : Nat) (hj : j < M.length) (hf : f < 9) : (evCells M)[j * 9 + f]? = (((readR M[j].1).at M[j].2).cells)[f]? := by
  induction M generalizing j with
  | nil => simp at hj
  | cons x r ih =>
    have e : evCells (x :: r) = ((readR x.1).at x.2).cells ++ evCells r := by unfold evCells; simp
    have h9 : ((readR x.1).at x.2).cells.length = 9 := rfl
    rw [e]
    cases j with
    | zero => rw [List.getElem?_append_left (by omega)]; simp
    | succ j =>
      rw [List.getElem?_append_right (by omega), h9, show (j + 1) * 9 + f - 9 = j * 9 + f by omega]
      exact ih j (by simpa using hj)
theorem EvsAt.get {B : Nat} {w : World} {v : Value} {L : List (List Nat)} (h : EvsAt B w v L) (i : Nat) (hi : i < L.length) :
    ∃ g cap u, v = .slice (some ⟨g, 0, none⟩) L.length cap ∧ L.length ≤ cap ∧ (∀ f x, ((readR L[i]).at u).cells[f]? = some x → w.cell? ⟨g, i * 9 + f, none⟩ = some x) ∧ IntsAt w u (readR L[i]).l := by
  obtain ⟨M, rfl, hr, ho, hx⟩ := h
  rw [List.length_map] at hi
  obtain ⟨g, cap, rfl, _, hc⟩ := hr.form' (by omega)
  refine ⟨g, cap, M[i].2, by rw [List.length_map], by rw [List.length_map]; exact hc, fun f x hf => ?_, ?_⟩
  · have h9 : f < 9 := (List.getElem?_eq_some_iff.1 hf).1
    rw [List.getElem_map] at hf
    exact hr.cell (i * 9 + f) (by rw [evCells_get M i f hi h9]; exact hf)
  · rw [List.getElem_map]
    exact Row.intsAt (hx M[i] (List.getElem_mem hi)).1
theorem lines_mem (l : List Nat) : ∀ p ∈ linesP l, p ∈ splitC 10 l := fun p hp => by
  unfold linesP at hp
  rcases List.mem_append.1 hp with hp | hp
  · exact List.dropLast_subset _ hp
  · split at hp
    · cases hp
    · have hl : 0 < (splitC 10 l).length := List.length_pos_iff.2 (splitC_ne 10 _)
      rw [List.mem_singleton.1 hp, lastD_at _ hl]; exact List.getElem_mem _
/-- The events' lines among the first. -/
def wantL (LS : List (List Nat)) (i : Nat) : List (List Nat) := (LS.take i).filter fun s => !skipL s
theorem wantL_skip {LS : List (List Nat)} {i : Nat} (hi : i < LS.length) (h : skipL LS[i] = true) : wantL LS (i + 1) = wantL LS i := by
  unfold wantL
  rw [List.take_succ_eq_append_getElem hi, List.filter_append]; simp [h]
theorem wantL_good {LS : List (List Nat)} {i : Nat} (hi : i < LS.length) (h : skipL LS[i] = false) : wantL LS (i + 1) = wantL LS i ++ [LS[i]] := by
  unfold wantL
  rw [List.take_succ_eq_append_getElem hi, List.filter_append]; simp [h]
theorem good_step {LS : List (List Nat)} {i : Nat} (hi : i < LS.length) (h : ∀ s ∈ LS.take i, badL s = false) (hb : badL LS[i] = false) : ∀ s ∈ LS.take (i + 1), badL s = false := fun s hs => by
  rw [List.take_succ_eq_append_getElem hi] at hs
  rcases List.mem_append.1 hs with hs | hs
  · exact h s hs
  · rw [List.mem_singleton.1 hs]; exact hb
set_option maxRecDepth 100000 in
set_option maxHeartbeats 12800000 in
theorem law_scriptParses (s0 : ByteArray) (w : World) (hs0 : s0.size ≤ 9223372036854775807) :
    Calls Tryd.prog 5 #[.string s0] w fun e w' => e = .returned (.bool true) ∧ Upd [] w w' := by
  obtain ⟨i0, hi, hz0, hz1, hz2⟩ := info_parts infoEvt
  obtain ⟨n2, hn2⟩ : ∃ n, n = min s0.size 3000 := ⟨_, rfl⟩
  have e2 : min (s0.size : Int) 3000 = (n2 : Int) := by omega
  have b2 : n2 ≤ s0.size := by omega
  have HS2 : Hid ((s0.extract 0 n2).size ≤ 3000) := Lib.hid (by rw [ByteArray.size_extract]; omega)
  clear hn2
  go_enter Tryd.func5, Tryd.ntmps5
  go_upto_region 1 with fail
  go_cut [0] (fun s1 wx => s1 = .string (s0.extract 0 n2) ∧ wx = w)
  case first =>
    go_wp2
    go_meet
    exact ⟨rfl, rfl⟩
  case rest =>
  obtain ⟨rfl, rfl⟩ := hcut
  generalize s0.extract 0 n2 = S at *
  clear e2 b2 hs0
  have HL := Lib.hid lives35_any
  have HP := sparse_any S wc (by have := HS2.out; omega)
  have HR0 := Lib.hid (fun z => rlines_any S z (by have := HS2.out; omega))
  have HSP : Hid (∀ p ∈ linesP (bytesOf S), p.length ≤ 3000 ∧ ∀ x ∈ p, x < 256) := Lib.hid (fun p hp => by
    have h1 := splitC_mem 10 (bytesOf S) p (lines_mem _ p hp)
    refine ⟨by have := h1.2; rw [length_bytesOf] at this; have := HS2.out; omega, fun x hx => bytesOf_lt S x (h1.1 x hx)⟩)
  have HSL : (linesP (bytesOf S)).length ≤ 3001 := by
    have h1 := lines_len (bytesOf S)
    have h2 := splitC_len 10 (bytesOf S)
    have h3 := List.countP_le_length (p := fun x => decide (x = 10)) (l := bytesOf S)
    rw [length_bytesOf] at h3
    have := HS2.out
    split at h1 <;> omega
  generalize linesP (bytesOf S) = LS at *
  obtain ⟨N, hN⟩ : ∃ N, LS.length = N := ⟨_, rfl⟩
  rw [hN] at HSL HR0
  have HN := Lib.hid hN
  clear hN
  obtain ⟨PL, hPL⟩ : ∃ PL, parseP LS = PL := ⟨_, rfl⟩
  have HPL := Lib.hid hPL
  rw [hPL] at HP
  clear hPL
  obtain ⟨PE, PA, PW⟩ := PL
  dsimp only at HP
  have HPP := Lib.hid HP
  clear HP
  go_wp2_with fail
  refine HPP.out.mono ?_
  rintro e w2 ⟨⟨vl, rfl, hel⟩, hu2⟩
  obtain ⟨la, lc, hlf⟩ := hel.form
  subst hlf
  have HEL := Lib.hid hel
  have HU2 := Lib.hid hu2
  clear hel hu2 HPP
  go_wp2_with fail
  refine (HR0.out _).mono ?_
  rintro e w3 ⟨⟨v3, rfl, hr3⟩, hu3⟩
  obtain ⟨a3, c3, hf3⟩ := hr3.form
  subst hf3
  have HEL3 := Lib.hid (HEL.out.upd hu3 (by simp))
  have HU3 := Lib.hid (HU2.out.then hu3)
  clear hr3 HEL HU2 hu3
  by_cases hbig : 2000 < N
  · have hbz : (2000 : Int) < (N : Int) := by omega
    have hpl : ([], 0, 4) = (PE, PA, PW) := by rw [← HPL.out]; exact (parse_long (by rw [HN.out]; exact hbig)).symm
    obtain ⟨rfl, rfl, rfl⟩ : PE = [] ∧ PA = 0 ∧ PW = 4 := by
      simp only [Prod.mk.injEq] at hpl
      exact ⟨hpl.1.symm, hpl.2.1.symm, hpl.2.2.symm⟩
    clear hpl HPL
    go_wp2_with fail
    refine (HL.out _).mono ?_
    rintro e w9 ⟨rfl, hu9⟩
    go_wp2
    go_returns
    exact ⟨rfl, HU3.out.then hu9⟩
  · have hbz : ¬ (2000 : Int) < (N : Int) := by omega
    go_upto_region 6 with fail
    go_wp2_with fail
    refine (HR0.out _).mono ?_
    rintro e w4 ⟨⟨v4, rfl, hr4⟩, hu4⟩
    obtain ⟨a4, c4, hf4⟩ := hr4.form
    subst hf4
    have HEL4 := Lib.hid (HEL3.out.upd hu4 (by simp))
    have HU4 := Lib.hid (HU3.out.then hu4)
    have HR4 := Lib.hid hr4
    clear hr4 HEL3 HU3 hu4 HR0
    go_wp2
    go_loopg [6, 44] N (fun gg v s44 wr => ∃ k, k ≤ N ∧ gg = N - k ∧ s44 = .int .i64 (k : Nat) ∧ Hid (EvsAt w4.heap.size wr v (wantL LS k)) ∧ Hid (∀ s ∈ LS.take k, badL s = false) ∧ Hid (Upd [] w4 wr))
    case atStart => exact ⟨0, Nat.zero_le _, rfl, rfl, Lib.hid (EvsAt.nil _ _), Lib.hid (fun s hs => by simp at hs), Lib.hid (Upd.refl _ _)⟩
    case round =>
      obtain ⟨k, hkn, rfl, rfl, HE, HG, HU⟩ := hrel
      obtain ⟨va, vc, hvf⟩ := HE.out.form
      obtain ⟨NW, hNW⟩ : ∃ NW, (wantL LS k).length = NW := ⟨_, rfl⟩
      have hNk : NW ≤ k := by
        rw [← hNW]; unfold wantL
        exact Nat.le_trans (List.length_filter_le _ _) (by rw [List.length_take]; exact Nat.min_le_left _ _)
      have HNW := Lib.hid hNW
      rw [hNW] at hvf
      clear hNW
      subst hvf
      by_cases hc : k < N
      · have hcz : (k : Int) < (N : Int) := by omega
        have hkl : k < LS.length := by rw [HN.out]; exact hc
        obtain ⟨g4, cap4, hv4, hg4, hcap4⟩ := HR4.out.form' (by omega)
        simp only [Value.slice.injEq] at hv4
        obtain ⟨rfl, _, rfl⟩ := hv4
        have hck : wr.cell? ⟨g4, k, none⟩ = some (.string (strOf LS[k])) := (HU.out.cell (p := ⟨g4, k, none⟩) hg4 (by simp)).trans (HR4.out.cell k (by rw [List.getElem?_map, List.getElem?_eq_getElem hkl]; rfl))
        obtain ⟨TX, hTX⟩ : ∃ TX, strOf LS[k] = TX := ⟨_, rfl⟩
        have hm := HSP.out LS[k] (List.getElem_mem hkl)
        have hbt : bytesOf TX = LS[k] := by rw [← hTX, bytesOf_strOf _ hm.2]
        have hts : TX.size ≤ 3000 := by rw [← hTX, size_strOf]; exact hm.1
        rw [hTX] at hck
        clear hTX hm
        obtain ⟨ln, hln⟩ : ∃ ln, LS[k] = ln := ⟨_, rfl⟩
        have HLN := Lib.hid hln
        rw [hln] at hbt
        have hem2 := isEmpty_of TX
        rw [hbt] at hem2
        have HSKP : Hid (skipL ln = true → EvsAt w4.heap.size wr (.slice va NW vc) (wantL LS (k + 1)) ∧ ∀ s ∈ LS.take (k + 1), badL s = false) := Lib.hid (fun h => ⟨by rw [wantL_skip hkl (by rw [hln]; exact h)]; exact HE.out, good_step hkl HG.out (by rw [hln]; unfold badL; rw [h]; rfl)⟩)
        clear hln
        by_cases hem0 : ln = []
        · have hem3 : TX.toList.isEmpty = true := by rw [hem2]; exact decide_eq_true hem0
          have HF := HSKP.out (by unfold skipL; simp [hem0])
          have HF1 := Lib.hid HF.1
          have HF2 := Lib.hid HF.2
          clear hem2 hem0 HSKP HF hbt HE HG
          go_wp2
          go_roundg (N - (k + 1))
          · exact ⟨k + 1, by omega, rfl, by first | rfl | go_num, HF1, HF2, HU⟩
          · omega
        · have hem3 : TX.toList.isEmpty = false := by rw [hem2]; exact decide_eq_false hem0
          have h0 : 0 < TX.size := by
            rcases Nat.eq_zero_or_pos TX.size with h | h
            · exfalso; apply hem0; rw [← hbt]; exact List.eq_nil_of_length_eq_zero (by rw [length_bytesOf]; exact h)
            · exact h
          have hhd : ln.head? = some (TX[0].toNat) := by
            rw [← hbt, List.head?_eq_getElem?, List.getElem?_eq_getElem (by rw [length_bytesOf]; exact h0), bytesOf_get TX 0 h0]
          by_cases h35 : TX[0].toNat = 35
          · have h35b : (((TX[0].toNat : Nat) : Int) == 35) = true := by rw [beq_iff_eq]; omega
            have HF := HSKP.out (by unfold skipL; rw [hhd, h35]; simp)
            have HF1 := Lib.hid HF.1
            have HF2 := Lib.hid HF.2
            clear hem2 hem0 HSKP HF hbt HE HG hhd h35
            go_wp2
            go_roundg (N - (k + 1))
            · exact ⟨k + 1, by omega, rfl, by first | rfl | go_num, HF1, HF2, HU⟩
            · omega
          · have h35b : (((TX[0].toNat : Nat) : Int) == 35) = false := by rw [beq_eq_false_iff_ne]; omega
            have HSK : Hid (skipL ln = false) := Lib.hid (by unfold skipL; rw [hhd]; simp [hem0]; omega)
            have HRD0 := sread_any TX
            rw [hbt] at HRD0
            have HRD := Lib.hid (fun z => HRD0 z (by omega))
            clear hem2 hem0 hhd h35 HSKP hbt HRD0
            obtain ⟨RE, hRE⟩ : ∃ RE, readR ln = RE := ⟨_, rfl⟩
            obtain ⟨OKB, hOKB⟩ : ∃ b, readOk ln = b := ⟨_, rfl⟩
            have HRE := Lib.hid hRE
            have HOKB := Lib.hid hOKB
            rw [hRE, hOKB] at HRD
            clear hRE hOKB
            obtain ⟨ro, rp, rq, rk, rm, rt, rD, rn, rv, rl⟩ := RE
            unfold EvN.at EvN.val EvN.cells at HRD
            dsimp only at HRD
            go_wp2_with fail
            refine (HRD.out _).mono ?_
            rintro e W3 ⟨⟨u, rfl, hur, huo⟩, hu3⟩
            obtain ⟨ua, uc, huf⟩ := hur.form
            subst huf
            have HUR := Lib.hid hur
            have HUO := Lib.hid huo
            have HU3 := Lib.hid hu3
            clear hur huo hu3 hck
            have h74 := Lib.hid (Blk.new W3 [.int .i64 ro, .string rp, .string rq, .int .i64 rk, .int .i64 rm, .int .u32 (rt : Nat), .string rD, .int .i64 rn, .slice ua rl.length uc] 44)
            have ha : Upd [] W3 (W3.alloc (.cells ([.int .i64 ro, .string rp, .string rq, .int .i64 rk, .int .i64 rm, .int .u32 (rt : Nat), .string rD, .int .i64 rn, .slice ua rl.length uc]).toArray 44)) := (Upd.refl [] W3).alloc _
            have HV4 := Lib.hid ((HU.out.then HU3.out).then ha)
            have HUR4 := Lib.hid (HUR.out.upd ha (by simp))
            have HUW := Lib.hid (HU3.out.then ha)
            have HW3 : Hid (w4.heap.size ≤ wr.heap.size ∧ wr.heap.size ≤ W3.heap.size) := Lib.hid ⟨HU.out.size, HU3.out.size⟩
            clear ha HU3 HUR HU
            cases OKB
            · have hpl : ([], k + 1, 2) = (PE, PA, PW) := by
                rw [← HPL.out]
                exact (parse_bad (ls := LS) (pre := LS.take k) (x := ln) (rest := LS.drop (k + 1)) (by rw [← HLN.out, ← List.drop_eq_getElem_cons hkl, List.take_append_drop]) (by rw [HN.out]; omega) HG.out (by unfold badL; rw [HSK.out, HOKB.out]; rfl) |>.trans (by rw [List.length_take, HN.out, Nat.min_eq_left (by omega)])).symm
              obtain ⟨rfl, rfl, rfl⟩ : PE = [] ∧ PA = k + 1 ∧ PW = 2 := by
                simp only [Prod.mk.injEq] at hpl
                exact ⟨hpl.1.symm, hpl.2.1.symm, hpl.2.2.symm⟩
              have hkw : IntKind.i64.wrap ((k : Int) + 1) = (k : Int) + 1 := IntWalk.i64_in _ (by omega)
              have hkb : (((k + 1 : Nat) : Int) == (k : Int) + 1) = true := by rw [beq_iff_eq]; omega
              clear hpl HPL HEL4
              go_upto_region 12 with fail
              generalize W3.alloc (.cells ([.int .i64 ro, .string rp, .string rq, .int .i64 rk, .int .i64 rm, .int .u32 (rt : Nat), .string rD, .int .i64 rn, .slice ua rl.length uc]).toArray 44) = W4 at *
              go_wp2_with fail
              refine (HL.out _).mono ?_
              rintro e w9 ⟨rfl, hu9⟩
              go_wp2
              go_returns
              exact ⟨rfl, ((HU4.out.then HV4.out)).then hu9⟩
            · obtain ⟨M, hM, hr, ho, hxx⟩ := HE.out
              have hMN : M.length = NW := by rw [← HNW.out, ← hM, List.length_map]
              have HM := Lib.hid hM
              have HO := Lib.hid ho
              have HX := Lib.hid hxx
              have HMN := Lib.hid hMN
              have hr4 : Row (W3.alloc (.cells ([.int .i64 ro, .string rp, .string rq, .int .i64 rk, .int .i64 rm, .int .u32 (rt : Nat), .string rD, .int .i64 rn, .slice ua rl.length uc]).toArray 44)) 44 9 (.slice va NW vc) NW (evCells M) := by
                have h1 := hr.upd HUW.out (by simp)
                rw [hMN] at h1
                exact h1
              have HR5 := Lib.hid hr4
              have HX4 : Hid (∀ y ∈ M, Row (W3.alloc (.cells ([.int .i64 ro, .string rp, .string rq, .int .i64 rk, .int .i64 rm, .int .u32 (rt : Nat), .string rD, .int .i64 rn, .slice ua rl.length uc]).toArray 44)) 3 1 y.2 (readR y.1).l.length (zsV (readR y.1).l) ∧ ∀ k, y.2.ownBlock = some k → w4.heap.size ≤ k) := Lib.hid (fun y hy => ⟨(HX.out y hy).1.upd HUW.out (by simp), (HX.out y hy).2⟩)
              clear hM ho hxx hr hMN hr4 HX hem3 h35b HRD hts hcap4 HR4
              go_upto_region 13 with fail
              have HS5 : Hid (w4.heap.size ≤ (W3.alloc (.cells ([.int .i64 ro, .string rp, .string rq, .int .i64 rk, .int .i64 rm, .int .u32 (rt : Nat), .string rD, .int .i64 rn, .slice ua rl.length uc]).toArray 44)).heap.size) := Lib.hid (by have := HW3.out; simp; omega)
              generalize W3.alloc (.cells ([.int .i64 ro, .string rp, .string rq, .int .i64 rk, .int .i64 rm, .int .u32 (rt : Nat), .string rD, .int .i64 rn, .slice ua rl.length uc]).toArray 44) = W4 at *
              generalize W3.heap.size = g7 at *
              have p0 := h74.out.cell 0 rfl
              have p1 := h74.out.cell 1 rfl
              have p2 := h74.out.cell 2 rfl
              have p3 := h74.out.cell 3 rfl
              have p4 := h74.out.cell 4 rfl
              have p5 := h74.out.cell 5 rfl
              have p6 := h74.out.cell 6 rfl
              have p7 := h74.out.cell 7 rfl
              have p8 := h74.out.cell 8 rfl
              go_wp2_with (at_builtin; refine wpList_app _ rfl _ _ 36 rfl 44 i0 _ 9 112 Tryd.underlying36 hi hz0 hz1 hz2 rfl (by omega) (.slice va NW vc) NW _ rfl (HR5.out.alloc _) ⟨W4.heap.size, 0, none⟩ 1 1 [.int .i64 ro, .string rp, .string rq, .int .i64 rk, .int .i64 rm, .int .u32 (rt : Nat), .string rD, .int .i64 rn, .slice ua rl.length uc] rfl rfl (World.news_of_block (cs := ([.int .i64 ro, .string rp, .string rq, .int .i64 rk, .int .i64 rm, .int .u32 (rt : Nat), .string rD, .int .i64 rn, .slice ua rl.length uc]).toArray) (t := 44) (fr := (0, 0)) (heap_alloc_new W4 _)) (by simp [Value.oneCell']) (by unfold maxLen; omega) (by omega) ?_)
              rintro v5 w5 hR6 hU6 hT6
              obtain ⟨g5, cap5, rfl, -, -⟩ := hR6.form' (by omega)
              have HEV : Hid (EvsAt w4.heap.size w5 (.slice (some ⟨g5, 0, none⟩) (NW + 1) cap5) (wantL LS (k + 1))) := Lib.hid (by
                rw [wantL_good hkl (by rw [HLN.out]; exact HSK.out), HLN.out, ← HM.out]
                exact EvsAt.app (s := ln) (u := .slice ua rl.length uc) (by rw [HMN.out]; exact HR5.out) HO.out HX4.out (by rw [HRE.out]; exact HUR4.out) (fun k hk => by have h1 : wr.heap.size ≤ k := HUO.out k hk; have h2 := HW3.out; omega) HS5.out (by rw [HMN.out, HRE.out]; exact hR6) hU6 hT6)
              have HGE := Lib.hid (good_step hkl HG.out (by rw [HLN.out]; unfold badL; rw [HSK.out, HOKB.out]; rfl))
              have HUE : Hid (Upd [] w4 w5) := Lib.hid ((HV4.out.then ((Upd.refl [] W4).alloc _)).trans hU6 (fun b hb => .inr (HO.out b (by simpa using hb))))
              clear hR6 hU6 hT6 p0 p1 p2 p3 p4 p5 p6 p7 p8
              go_wp2
              go_roundg (N - (k + 1))
              · exact ⟨k + 1, by omega, rfl, by first | rfl | go_num, HEV, HGE, HUE⟩
              · omega
      · have hcz : ¬ (k : Int) < (N : Int) := by omega
        obtain rfl : k = N := by omega
        have HW : Hid (LS.filter (fun s => !skipL s) = wantL LS k) := Lib.hid (by unfold wantL; rw [List.take_of_length_le (by rw [HN.out]; omega)])
        have hpl : (wantL LS k, 0, 0) = (PE, PA, PW) := by
          rw [← HPL.out, parse_ok (by rw [HN.out]; omega) (fun s hs => HG.out s (by rw [List.take_of_length_le (by rw [HN.out]; omega)]; exact hs)), HW.out]
        obtain ⟨rfl, rfl, rfl⟩ : PE = wantL LS k ∧ PA = 0 ∧ PW = 0 := by
          simp only [Prod.mk.injEq] at hpl
          exact ⟨hpl.1.symm, hpl.2.1.symm, hpl.2.2.symm⟩
        clear hpl HPL HW HG
        have HEA := Lib.hid (HEL4.out.upd HU.out (by simp))
        have HUA := Lib.hid (HU4.out.then HU.out)
        have HBD : Hid (∀ i, (hi : i < (wantL LS k).length) → (wantL LS k)[i] ∈ LS) := Lib.hid (fun i hi => List.mem_of_mem_take (List.mem_filter.1 (List.getElem_mem hi)).1)
        have HRD : Hid (∀ l ∈ LS, (readR l).l.length ≤ 9223372036854775807) := Lib.hid (fun l hl => by
          have h1 := (HSP.out l hl).1
          have h2 := (readE_bd l).2.2.2
          unfold readR
          split
          · omega
          · simp [EvN.no])
        clear HU HEL4 HU4 HR4
        rw [HNW.out]
        generalize wantL LS k = L at *
        generalize wr = wq at *
        as_aux_lemma =>
        go_wp2
        go_loopg [86] NW (fun gg s86 wr => ∃ j, j ≤ NW ∧ gg = NW - j ∧ s86 = .int .i64 (j : Nat) ∧ Hid (Upd [] wq wr))
        case atStart => exact ⟨0, Nat.zero_le _, rfl, rfl, Lib.hid (Upd.refl _ _)⟩
        case round =>
          obtain ⟨j, hjn, rfl, rfl, HU⟩ := hrel
          by_cases hj : j < NW
          · have hjz : (j : Int) < (NW : Int) := by omega
            have hjl : j < L.length := by rw [HNW.out]; exact hj
            obtain ⟨ga, ca, ua, hfa, hlca, hga, hia⟩ := HEA.out.get j hjl
            obtain ⟨gb, cb, ub, hfb, hlcb, hgb, hib⟩ := HE.out.get j hjl
            simp only [Value.slice.injEq] at hfa hfb
            obtain ⟨rfl, _, rfl⟩ := hfa
            obtain ⟨rfl, _, rfl⟩ := hfb
            have HCA := Lib.hid (fun f x h => (HU.out.keep (hga f x h)))
            have HCB := Lib.hid (fun f x h => (HU.out.keep (hgb f x h)))
            have hbd := HRD.out _ (HBD.out j hjl)
            have HSM := Lib.hid (fun z (hz : Upd [] wr z) => rsame35_any ((readR L[j]).at ua) ((readR L[j]).at ub) z (hia.upd (HU.out.then hz)) (hib.upd (HU.out.then hz)) hbd hbd)
            have HSE : Hid (sameE ((readR L[j]).at ua) ((readR L[j]).at ub) = true) := Lib.hid (sameE_refl (readR L[j]))
            rw [HSE.out] at HSM
            have hq1 := Nat.le_trans (Nat.le_of_lt hjl) hlca
            have hq2 := Nat.le_trans (Nat.le_of_lt hjl) hlcb
            clear hga hgb hia hib hbd
            clear HSE
            generalize readR L[j] = RE at HCA HCB HSM
            obtain ⟨ro, rp, rq, rk, rm, rt, rD, rn, rv, rl⟩ := RE
            unfold EvN.at EvN.cells at HCA HCB
            unfold EvN.at EvN.val EvN.cells at HSM
            dsimp only at HCA HCB HSM
            rw [HNW.out] at *
            have c0 := HCA.out 0 (.int .i64 ro) rfl
            have c1 := HCA.out 1 (.string rp) rfl
            have c2 := HCA.out 2 (.string rq) rfl
            have c3 := HCA.out 3 (.int .i64 rk) rfl
            have c4 := HCA.out 4 (.int .i64 rm) rfl
            have c5 := HCA.out 5 (.int .u32 (rt : Nat)) rfl
            have c6 := HCA.out 6 (.string rD) rfl
            have c7 := HCA.out 7 (.int .i64 rn) rfl
            have c8 := HCA.out 8 (ua) rfl
            have d0 := HCB.out 0 (.int .i64 ro) rfl
            have d1 := HCB.out 1 (.string rp) rfl
            have d2 := HCB.out 2 (.string rq) rfl
            have d3 := HCB.out 3 (.int .i64 rk) rfl
            have d4 := HCB.out 4 (.int .i64 rm) rfl
            have d5 := HCB.out 5 (.int .u32 (rt : Nat)) rfl
            have d6 := HCB.out 6 (.string rD) rfl
            have d7 := HCB.out 7 (.int .i64 rn) rfl
            have d8 := HCB.out 8 (ub) rfl
            simp only [Nat.add_zero] at c0 d0
            go_upto_region 18 with fail
            refine wp_region_held_drew (S := fun w' => Upd [] wr w') (by kernel_rfl) (Upd.refl _ _).drew (fun hHeld => hdN ?_)
            refine hdT 0 (some 89) ?_; refine hdT 1 (some 90) ?_; refine hdT 2 (some 91) ?_
            refine hdT 3 (some 92) ?_ (hy := by intro w0 hSw; go_simp; (try simp); all_goals omega) (v := .bool false); refine hdT 4 (some 93) ?_
            refine hdT 5 (some 94) ?_; refine hdT 6 (some 95) ?_; refine hdT 7 (some 96) ?_
            refine hdT 8 (some 97) ?_ (hy := by intro w0 hSw; have q0 := hSw.keep c0; have q1 := hSw.keep c1; have q2 := hSw.keep c2; have q3 := hSw.keep c3; have q4 := hSw.keep c4; have q5 := hSw.keep c5; have q6 := hSw.keep c6; have q7 := hSw.keep c7; have q8 := hSw.keep c8; go_simp; try with_reducible rfl)
            refine hdT 9 (some 98) ?_; refine hdT 10 (some 99) ?_; refine hdT 11 (some 100) ?_
            refine hdT 12 (some 101) ?_ (hy := by intro w0 hSw; have q0 := hSw.keep d0; have q1 := hSw.keep d1; have q2 := hSw.keep d2; have q3 := hSw.keep d3; have q4 := hSw.keep d4; have q5 := hSw.keep d5; have q6 := hSw.keep d6; have q7 := hSw.keep d7; have q8 := hSw.keep d8; go_simp; try with_reducible rfl)
            refine hdO 13 (fun K hK => ?_)
            go_simp
            refine (HSM.out _ hHeld).mono ?_
            rintro e z1 ⟨rfl, hz1⟩
            go_wp2
            refine hK.out _ _ (hHeld.then hz1) (fun hHeld => hdN ?_)
            clear hK K
            refine hdT 14 (some 103) ?_; refine hdT 15 (some 104) ?_
            refine wpAnyH_done (by kernel_rfl) ?_ 0
            go_wp2
            go_roundg (NW - (j + 1))
            · exact ⟨j + 1, by omega, rfl, by first | rfl | go_num, Lib.hid (HU.out.then hHeld)⟩
            · omega
          · have hjz : ¬ (j : Int) < (NW : Int) := by omega
            go_wp2_with fail
            refine (HL.out _).mono ?_
            rintro e w9 ⟨rfl, hu9⟩
            go_wp2
            go_returns
            exact ⟨rfl, (HUA.out.then HU.out).then hu9⟩
end Go.Proofs.YtigjingielnaoaaDoor
namespace Go.Proofs.YtigjingielnaoaaDoor
set_option linter.unusedVariables false
set_option linter.unusedSimpArgs false
set_option linter.unusedSectionVars false
open Go.ChangeShapes Go.WideShapes Go.Deep

theorem add_zero (a : Addr) : a.add 0 = a := by unfold Addr.add; simp

section
variable {H : Type} {enc : TypeId × Value → H} {P : Program} {w : World} {base : Nat} {spare : Nat → Bool} {held : Bool}
end
end Go.Proofs.YtigjingielnaoaaDoor
