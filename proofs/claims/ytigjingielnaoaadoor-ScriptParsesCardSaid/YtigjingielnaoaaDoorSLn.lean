/- Package script: Line, for any event: its walk. -/
import Derived.Test.YtigjingielnaoaaDoorSRt
namespace Go.Proofs.YtigjingielnaoaaDoor
set_option linter.unusedVariables false
set_option linter.unusedSimpArgs false
set_option linter.unusedSectionVars false
open Go.RowKit
attribute [local go_sem] Oper.semAt_some
set_option linter.unusedVariables false
set_option linter.unusedSimpArgs false

set_option maxRecDepth 100000 in
theorem srname_any (n : Int) (w : World) (h : 0 ≤ n ∧ n ≤ 3) : Calls Tryd.prog 76 #[.int .i64 n] w fun e w' => e = .returned (.string (strOf (polN n))) ∧ w' = w := by
  have HP := Lib.hid (fun w => spolicy_any n w)
  obtain ⟨i, hi, rfl⟩ : ∃ i : Nat, i < 4 ∧ n = (i : Int) := ⟨n.toNat, by omega, by omega⟩
  have hd : decide (0 ≤ (i : Int) ∧ (i : Int) ≤ 3) = true := decide_eq_true h
  rw [hd] at HP
  have hix := fun w1 => run_indexAggS (P := Tryd.prog) 121 9 4 Tryd.underlying121 Tryd.underlying9 (by kernel_rfl) [.string ⟨#[115, 107, 105, 112]⟩, .string ⟨#[108, 101, 102, 116]⟩, .string ⟨#[114, 105, 103, 104, 116]⟩, .string ⟨#[110, 101, 119, 101, 114]⟩] rfl .i64 i hi w1
  have e2 : ([.string ⟨#[115, 107, 105, 112]⟩, .string ⟨#[108, 101, 102, 116]⟩, .string ⟨#[114, 105, 103, 104, 116]⟩, .string ⟨#[110, 101, 119, 101, 114]⟩] : List Value).getD i undef = .string (strOf (polN (i : Int))) := by
    have hall : ∀ i : Fin 4, ([.string ⟨#[115, 107, 105, 112]⟩, .string ⟨#[108, 101, 102, 116]⟩, .string ⟨#[114, 105, 103, 104, 116]⟩, .string ⟨#[110, 101, 119, 101, 114]⟩] : List Value).getD i.1 undef = .string (strOf (polN (i.1 : Nat))) := by
      intro ⟨j, hj⟩
      rcases j with _ | _ | _ | _ | j
      · rfl
      · rfl
      · rfl
      · rfl
      · omega
    exact hall ⟨i, hi⟩
  simp only [e2] at hix
  clear e2 hd
  generalize strOf (polN (i : Int)) = RR at *
  go_enter Tryd.func76, Tryd.ntmps76
  go_wp2_with fail
  refine (HP.out _).mono ?_
  rintro e w1 ⟨rfl, hw1⟩
  subst hw1
  have hix := hix w1
  go_wp2
  go_ret
  exact ⟨rfl, rfl⟩
set_option maxRecDepth 100000 in
set_option maxHeartbeats 12800000 in
theorem sline_any (e : EvN) (w : World) (hv : IntsAt w e.v e.l) (hl : e.l.length ≤ 9223372036854775807) (ht : e.t < 4294967296) (hp : e.p.size ≤ 9223372036854775807) (hq : e.q.size ≤ 9223372036854775807) (hD : e.D.size ≤ 9223372036854775807) :
    Calls Tryd.prog 44 #[e.val] w fun r w' => r = .returned (.string (strOf (lineE e))) ∧ Upd [] w w' := by
  have HR := Lib.hid (fun z (hz : Upd [] w z) => sright_any e z (hv.upd hz) hl ht hp hq hD)
  have HVL := Lib.hid hv
  have HB0 := Lib.hid (Blk.new w e.cells 44)
  have HU0 := Lib.hid ((Upd.refl [] w).alloc (.cells e.cells.toArray 44))
  cases hr : rightE e with
  | false =>
    have HV : Hid (lineE e = []) := Lib.hid (by unfold lineE; rw [if_neg (by rw [hr]; decide)])
    rw [hr] at HR
    clear hr hv hl ht hp hq hD
    generalize lineE e = LE at *
    obtain ⟨op, p, q, k, m, t, D, n, v, l⟩ := e
    unfold EvN.val EvN.cells at *
    dsimp only at *
    go_enter Tryd.func44, Tryd.ntmps44
    go_wp2_with fail
    refine (HR.out _ HU0.out).mono ?_
    rintro e w1 ⟨rfl, hu1⟩
    go_wp2
    go_ret
    exact ⟨by rw [HV.out]; rfl, HU0.out.then hu1⟩
  | true =>
    have hm := (rightE_iff.1 hr).1
    have HV : Hid (lineE e = joinC 9 (nameN e.op :: argsE e)) := Lib.hid (if_pos hr)
    have HBD := Lib.hid (words_bd hm)
    have HTT := Lib.hid (words_tot hm)
    have HOP := Lib.hid (mayE_op hm)
    have HMA := Lib.hid hm
    rw [hr] at HR
    clear hr hm
    generalize lineE e = LE at *
    obtain ⟨op, p, q, k, m, t, D, n, v, l⟩ := e
    dsimp only at hv hl ht hp hq hD HV HOP HBD HTT HVL
    have HTX := Lib.hid (fun z => stext_any k m t D z ht hD)
    unfold nodeV at HTX
    clear hv hl ht hp hq hD
    have hcase : op = 1 ∨ op = 4 ∨ op = 2 ∨ op = 3 ∨ op = 5 ∨ op = 11 ∨ op = 12 ∨ op = 13 ∨ op = 14 ∨ (op ≠ 1 ∧ op ≠ 4 ∧ op ≠ 2 ∧ op ≠ 3 ∧ op ≠ 5 ∧ op ≠ 11 ∧ op ≠ 12 ∧ op ≠ 13 ∧ op ≠ 14) := by omega
    rcases hcase with rfl | rfl | rfl | rfl | rfl | rfl | rfl | rfl | rfl | ⟨h1, h4, h2, h3, h5, h11, h12, h13, h14⟩
    · obtain ⟨TX, hTX⟩ : ∃ TX, (NodN.mk k m t D).text = TX := ⟨_, rfl⟩
      rw [hTX] at HTX
      have HA0 : Hid (argsE ⟨1, p, q, k, m, t, D, n, v, l⟩ = [bytesOf p, TX]) := Lib.hid (by unfold argsE; rw [← hTX]; rfl)
      rw [HA0.out] at HV HBD HTT
      clear HA0
      unfold EvN.val EvN.cells at *
      dsimp only at *
      obtain ⟨nm, hnm⟩ : ∃ nm, nameN 1 = nm := ⟨_, rfl⟩
      have HNM := Lib.hid (fun z => sname_any 1 z)
      rw [hnm] at HV HBD HTT HNM
      clear hnm
      go_enter Tryd.func44, Tryd.ntmps44
      go_wp2_with fail
      change Calls _ _ _ (w.alloc (.cells #[.int .i64 1, .string p, .string q, .int .i64 k, .int .i64 m, .int .u32 (t : Nat), .string D, .int .i64 n, v] 44)) _
      generalize w.alloc (.cells #[.int .i64 1, .string p, .string q, .int .i64 k, .int .i64 m, .int .u32 (t : Nat), .string D, .int .i64 n, v] 44) = w0 at *
      obtain ⟨q0, hq0⟩ : ∃ q0, w.heap.size = q0 := ⟨_, rfl⟩
      rw [hq0] at HB0 ⊢
      clear hq0
      refine (HR.out _ HU0.out).mono ?_
      rintro e w1 ⟨rfl, hu1⟩
      have HB1 := Lib.hid (HB0.out.upd hu1 (by simp))
      have HU1 := Lib.hid (HU0.out.then hu1)
      clear hu1 HB0 HU0 HR
      have c0 := HB1.out.cell 0 rfl
      go_wp2_with fail
      refine (HNM.out _).mono ?_
      rintro e w2 ⟨rfl, hw2⟩
      subst hw2
      go_upto_region 4 with fail
      have HG : Hid (Blk ((w2.alloc (.cells #[.string (strOf nm)] 9)).alloc (.cells #[(.slice (some ⟨w2.heap.size, 0, none⟩) 1 1)] 40)) w2.heap.size [.string (strOf nm)] 9) := Lib.hid ((Blk.new w2 [.string (strOf nm)] 9).alloc _)
      have HA : Hid (Blk ((w2.alloc (.cells #[.string (strOf nm)] 9)).alloc (.cells #[(.slice (some ⟨w2.heap.size, 0, none⟩) 1 1)] 40)) (w2.heap.size + 1) [(.slice (some ⟨w2.heap.size, 0, none⟩) 1 1)] 40) := Lib.hid (by
        have h := Blk.new (w2.alloc (.cells #[.string (strOf nm)] 9)) [(.slice (some ⟨w2.heap.size, 0, none⟩) 1 1)] 40
        simpa using h)
      have HRW : Hid (Row ((w2.alloc (.cells #[.string (strOf nm)] 9)).alloc (.cells #[(.slice (some ⟨w2.heap.size, 0, none⟩) 1 1)] 40)) 9 1 (.slice (some ⟨w2.heap.size, 0, none⟩) 1 1) 1 (strsV [nm])) := Lib.hid ((Row.new w2 [.string (strOf nm)] 9 1 1 (by unfold maxLen; omega) rfl).alloc _)
      have HBQ := Lib.hid ((HB1.out.alloc (.cells #[.string (strOf nm)] 9)).alloc (.cells #[(.slice (some ⟨w2.heap.size, 0, none⟩) 1 1)] 40))
      have HUQ := Lib.hid ((HU1.out.alloc (.cells #[.string (strOf nm)] 9)).alloc (.cells #[(.slice (some ⟨w2.heap.size, 0, none⟩) 1 1)] 40))
      have HLE : Hid (w.heap.size ≤ w2.heap.size + 1) := Lib.hid (by have := HU1.out.size; omega)
      have HLG : Hid (w.heap.size ≤ w2.heap.size) := Lib.hid HU1.out.size
      have HQ2 : Hid (q0 < w2.heap.size) := Lib.hid HB1.out.lt
      change Code.wp _ _ _ _ ((w2.alloc (.cells #[.string (strOf nm)] 9)).alloc (.cells #[(.slice (some ⟨w2.heap.size, 0, none⟩) 1 1)] 40))
      generalize ((w2.alloc (.cells #[.string (strOf nm)] 9)).alloc (.cells #[(.slice (some ⟨w2.heap.size, 0, none⟩) 1 1)] 40)) = w4 at *
      clear HB1 HU1 c0
      have HQA : Hid (q0 ≠ w2.heap.size + 1 ∧ q0 ≠ w2.heap.size) := Lib.hid (by have := HQ2.out; omega)
      generalize w2.heap.size + 1 = a at *
      generalize w2.heap.size = g at *
      clear hTX
      have c0 := HBQ.out.cell 0 rfl
      have c1 := HBQ.out.cell 1 rfl
      have c2 := HBQ.out.cell 2 rfl
      have c3 := HBQ.out.cell 3 rfl
      have c4 := HBQ.out.cell 4 rfl
      have c5 := HBQ.out.cell 5 rfl
      have c6 := HBQ.out.cell 6 rfl
      have c7 := HBQ.out.cell 7 rfl
      have c8 := HBQ.out.cell 8 rfl
      go_upto_region 8 with fail
      clear c0 c1 c2 c3 c4 c5 c6 c7 c8
      have HSP := Lib.hid (strOf_bytesOf p)
      have HAD := Lib.hid (HA.out.upd ((Upd.refl [] _).drew) (by simp))
      have HRD := Lib.hid (HRW.out.upd ((Upd.refl [] _).drew) (by simp))
      have HUD := Lib.hid HUQ.out.drew
      refine wp_region_held_drew (S := fun w' => Blk w' q0 [.int .i64 1, .string p, .string q, .int .i64 k, .int .i64 m, .int .u32 (t : Nat), .string D, .int .i64 n, v] 44) (by kernel_rfl) HBQ.out (fun hHeld => ?_)
      change wpAnyH _ _ _ _ _ 8 #[false, false, false, false, false, false, false, false] _ _
      refine heldTake (i := 0) (d := some 18) (v := ?v0_1) rfl rfl (by kernel_rfl) (by kernel_rfl) (by kernel_rfl) (fun _ _ _ h => h) (by rfl) ?hy0_1 (by assumption) ?r0_1
      case hy0_1 => (intro w hSw; (try dsimp only at hSw); go_simp; try with_reducible rfl)
      try simp only [Act.put, List.setIfInBounds_toArray, List.set_cons_zero, List.set_cons_succ]
      change wpAnyH _ _ _ _ _ 7 #[true, false, false, false, false, false, false, false] _ _
      refine heldTake (i := 1) (d := some 19) (v := ?v1_2) rfl rfl (by kernel_rfl) (by kernel_rfl) (by kernel_rfl) (fun _ _ _ h => h) (by rfl) ?hy1_2 (by assumption) ?r1_2
      case hy1_2 => (intro w hSw; (try dsimp only at hSw); go_simp; try with_reducible rfl)
      try simp only [Act.put, List.setIfInBounds_toArray, List.set_cons_zero, List.set_cons_succ]
      change wpAnyH _ _ _ _ _ 6 #[true, true, false, false, false, false, false, false] _ _
      refine heldTake (i := 2) (d := some 20) (v := ?v2_3) rfl rfl (by kernel_rfl) (by kernel_rfl) (by kernel_rfl) (fun _ _ _ h => h) (by rfl) ?hy2_3 (by assumption) ?r2_3
      case hy2_3 => (intro w5 hSw; have q0c := hSw.cell 1 rfl; have q0c0 := hSw.cell 0 rfl; have q0c1 := hSw.cell 1 rfl; have q0c2 := hSw.cell 2 rfl; have q0c3 := hSw.cell 3 rfl; have q0c4 := hSw.cell 4 rfl; have q0c5 := hSw.cell 5 rfl; have q0c6 := hSw.cell 6 rfl; have q0c7 := hSw.cell 7 rfl; have q0c8 := hSw.cell 8 rfl; go_simp; try with_reducible rfl)
      try simp only [Act.put, List.setIfInBounds_toArray, List.set_cons_zero, List.set_cons_succ]
      change wpAnyH _ _ _ _ _ 5 #[true, true, true, false, false, false, false, false] _ _
      refine heldTake (i := 3) (d := some 21) (v := ?v3_4) rfl rfl (by kernel_rfl) (by kernel_rfl) (by kernel_rfl) (fun _ _ _ h => h) (by rfl) ?hy3_4 (by assumption) ?r3_4
      case hy3_4 => (intro w hSw; (try dsimp only at hSw); go_simp; try with_reducible rfl)
      try simp only [Act.put, List.setIfInBounds_toArray, List.set_cons_zero, List.set_cons_succ]
      change wpAnyH _ _ _ _ _ 4 #[true, true, true, true, false, false, false, false] _ _
      refine heldTake (i := 4) (d := some 22) (v := ?v4_5) rfl rfl (by kernel_rfl) (by kernel_rfl) (by kernel_rfl) (fun _ _ _ h => h) (by rfl) ?hy4_5 (by assumption) ?r4_5
      case hy4_5 => (intro w5 hSw; have q0c := hSw.cell 3 rfl; have q0c0 := hSw.cell 0 rfl; have q0c1 := hSw.cell 1 rfl; have q0c2 := hSw.cell 2 rfl; have q0c3 := hSw.cell 3 rfl; have q0c4 := hSw.cell 4 rfl; have q0c5 := hSw.cell 5 rfl; have q0c6 := hSw.cell 6 rfl; have q0c7 := hSw.cell 7 rfl; have q0c8 := hSw.cell 8 rfl; go_simp; try with_reducible rfl)
      try simp only [Act.put, List.setIfInBounds_toArray, List.set_cons_zero, List.set_cons_succ]
      change wpAnyH _ _ _ _ _ 3 #[true, true, true, true, true, false, false, false] _ _
      refine wpAnyH_ready (rs := [5]) (by kernel_rfl) (by simp) ?_
      refine AllReadyH.cons rfl (fun K hK => ?_) AllReadyH.nil
      go_simp
      refine (HTX.out _).mono ?_
      rintro e z5 ⟨rfl, hz5⟩
      have HA5 := Lib.hid (HAD.out.upd hz5 (by simp))
      have HR5 := Lib.hid (HRD.out.upd hz5 (by simp))
      have HU5 := Lib.hid (HUD.out.then hz5)
      go_wp2
      refine hK.out _ _ (hHeld.upd hz5 (by simp)) (fun hHeld => ?_)
      clear hK K
      try simp only [Act.put, List.setIfInBounds_toArray, List.set_cons_zero, List.set_cons_succ]
      change wpAnyH _ _ _ _ _ 2 #[true, true, true, true, true, true, false, false] _ _
      refine wpAnyH_ready (rs := [6]) (by kernel_rfl) (by simp) ?_
      refine AllReadyH.cons rfl (fun K hK => ?_) AllReadyH.nil
      go_simp
      have HA6 := Lib.hid (HA5.out.alloc (.cells #[.string p, .string (strOf TX)] 9))
      have HR6 := Lib.hid (HR5.out.alloc (.cells #[.string p, .string (strOf TX)] 9))
      have HU6 := Lib.hid (HU5.out.alloc (.cells #[.string p, .string (strOf TX)] 9))
      have HN6 : Hid (Blk (z5.alloc (.cells #[.string p, .string (strOf TX)] 9)) z5.heap.size (strsV [bytesOf p, TX]) 9) := Lib.hid (by have h := Blk.new z5 [.string p, .string (strOf TX)] 9; unfold strsV; simp only [List.map_cons, List.map_nil, HSP.out]; exact h)
      go_wp2
      refine hK.out _ _ (hHeld.alloc _) (fun hHeld => ?_)
      clear hK K
      try simp only [Act.put, List.setIfInBounds_toArray, List.set_cons_zero, List.set_cons_succ]
      change wpAnyH _ _ _ _ _ 1 #[true, true, true, true, true, true, true, false] _ _
      refine wpAnyH_ready (rs := [7]) (by kernel_rfl) (by simp) ?_
      refine AllReadyH.cons rfl (fun K hK => ?_) AllReadyH.nil
      go_simp
      refine (line1_any a z5.heap.size (.slice (some ⟨g, 0, none⟩) 1 1) [nm] [bytesOf p, TX] _ HA6.out HR6.out HN6.out (by simp)).mono ?_
      rintro e z7 ⟨rfl, v6, hB6, hR6, hU6, _⟩
      have HU7 := Lib.hid (HU6.out.trans hU6 (fun k hk => by
        simp [Value.ownBlock] at hk
        rcases hk with rfl | rfl
        · exact .inr HLE.out
        · exact .inr HLG.out))
      have HB7 := Lib.hid hB6
      have HT7 : Hid (TextsAt z7 v6 (nm :: [bytesOf p, TX])) := Lib.hid (Row.textsAt (ps := nm :: [bytesOf p, TX]) (by simpa using hR6))
      go_wp2
      refine hK.out _ _ (hHeld.upd hU6 (by simp [Value.ownBlock]; exact HQA.out)) (fun hHeld => ?_)
      clear hK K
      try simp only [Act.put, List.setIfInBounds_toArray, List.set_cons_zero, List.set_cons_succ]
      change wpAnyH _ _ _ _ _ 0 #[true, true, true, true, true, true, true, true] _ _
      refine wpAnyH_done (by kernel_rfl) ?_ 0
      have HB6 := HB7
      have HT6 := HT7
      have HU6 := HU7
      clear HB7 HT7 HU7 hB6 hR6 hU6
      have d0 := HB6.out.cell 0 rfl
      go_wp2_with fail
      refine (joinC_any (nm :: [bytesOf p, TX]) 9 v6 _ HT6.out (fun p hp => (HBD.out p hp).2) (by have := HTT.out.2; omega) (by have := HTT.out.1; omega)).mono ?_
      rintro e w7 ⟨rfl, hu7⟩
      have HU7 := Lib.hid (HU6.out.then hu7)
      clear hu7
      go_wp2
      go_ret
      exact ⟨by rw [HV.out]; rfl, HU7.out⟩
    · obtain ⟨TX, hTX⟩ : ∃ TX, (NodN.mk k m t D).text = TX := ⟨_, rfl⟩
      rw [hTX] at HTX
      have HA0 : Hid (argsE ⟨4, p, q, k, m, t, D, n, v, l⟩ = [bytesOf p, TX]) := Lib.hid (by unfold argsE; rw [← hTX]; rfl)
      rw [HA0.out] at HV HBD HTT
      clear HA0
      unfold EvN.val EvN.cells at *
      dsimp only at *
      obtain ⟨nm, hnm⟩ : ∃ nm, nameN 4 = nm := ⟨_, rfl⟩
      have HNM := Lib.hid (fun z => sname_any 4 z)
      rw [hnm] at HV HBD HTT HNM
      clear hnm
      go_enter Tryd.func44, Tryd.ntmps44
      go_wp2_with fail
      change Calls _ _ _ (w.alloc (.cells #[.int .i64 4, .string p, .string q, .int .i64 k, .int .i64 m, .int .u32 (t : Nat), .string D, .int .i64 n, v] 44)) _
      generalize w.alloc (.cells #[.int .i64 4, .string p, .string q, .int .i64 k, .int .i64 m, .int .u32 (t : Nat), .string D, .int .i64 n, v] 44) = w0 at *
      obtain ⟨q0, hq0⟩ : ∃ q0, w.heap.size = q0 := ⟨_, rfl⟩
      rw [hq0] at HB0 ⊢
      clear hq0
      refine (HR.out _ HU0.out).mono ?_
      rintro e w1 ⟨rfl, hu1⟩
      have HB1 := Lib.hid (HB0.out.upd hu1 (by simp))
      have HU1 := Lib.hid (HU0.out.then hu1)
      clear hu1 HB0 HU0 HR
      have c0 := HB1.out.cell 0 rfl
      go_wp2_with fail
      refine (HNM.out _).mono ?_
      rintro e w2 ⟨rfl, hw2⟩
      subst hw2
      go_upto_region 4 with fail
      have HG : Hid (Blk ((w2.alloc (.cells #[.string (strOf nm)] 9)).alloc (.cells #[(.slice (some ⟨w2.heap.size, 0, none⟩) 1 1)] 40)) w2.heap.size [.string (strOf nm)] 9) := Lib.hid ((Blk.new w2 [.string (strOf nm)] 9).alloc _)
      have HA : Hid (Blk ((w2.alloc (.cells #[.string (strOf nm)] 9)).alloc (.cells #[(.slice (some ⟨w2.heap.size, 0, none⟩) 1 1)] 40)) (w2.heap.size + 1) [(.slice (some ⟨w2.heap.size, 0, none⟩) 1 1)] 40) := Lib.hid (by
        have h := Blk.new (w2.alloc (.cells #[.string (strOf nm)] 9)) [(.slice (some ⟨w2.heap.size, 0, none⟩) 1 1)] 40
        simpa using h)
      have HRW : Hid (Row ((w2.alloc (.cells #[.string (strOf nm)] 9)).alloc (.cells #[(.slice (some ⟨w2.heap.size, 0, none⟩) 1 1)] 40)) 9 1 (.slice (some ⟨w2.heap.size, 0, none⟩) 1 1) 1 (strsV [nm])) := Lib.hid ((Row.new w2 [.string (strOf nm)] 9 1 1 (by unfold maxLen; omega) rfl).alloc _)
      have HBQ := Lib.hid ((HB1.out.alloc (.cells #[.string (strOf nm)] 9)).alloc (.cells #[(.slice (some ⟨w2.heap.size, 0, none⟩) 1 1)] 40))
      have HUQ := Lib.hid ((HU1.out.alloc (.cells #[.string (strOf nm)] 9)).alloc (.cells #[(.slice (some ⟨w2.heap.size, 0, none⟩) 1 1)] 40))
      have HLE : Hid (w.heap.size ≤ w2.heap.size + 1) := Lib.hid (by have := HU1.out.size; omega)
      have HLG : Hid (w.heap.size ≤ w2.heap.size) := Lib.hid HU1.out.size
      have HQ2 : Hid (q0 < w2.heap.size) := Lib.hid HB1.out.lt
      change Code.wp _ _ _ _ ((w2.alloc (.cells #[.string (strOf nm)] 9)).alloc (.cells #[(.slice (some ⟨w2.heap.size, 0, none⟩) 1 1)] 40))
      generalize ((w2.alloc (.cells #[.string (strOf nm)] 9)).alloc (.cells #[(.slice (some ⟨w2.heap.size, 0, none⟩) 1 1)] 40)) = w4 at *
      clear HB1 HU1 c0
      have HQA : Hid (q0 ≠ w2.heap.size + 1 ∧ q0 ≠ w2.heap.size) := Lib.hid (by have := HQ2.out; omega)
      generalize w2.heap.size + 1 = a at *
      generalize w2.heap.size = g at *
      clear hTX
      have c0 := HBQ.out.cell 0 rfl
      have c1 := HBQ.out.cell 1 rfl
      have c2 := HBQ.out.cell 2 rfl
      have c3 := HBQ.out.cell 3 rfl
      have c4 := HBQ.out.cell 4 rfl
      have c5 := HBQ.out.cell 5 rfl
      have c6 := HBQ.out.cell 6 rfl
      have c7 := HBQ.out.cell 7 rfl
      have c8 := HBQ.out.cell 8 rfl
      go_upto_region 8 with fail
      clear c0 c1 c2 c3 c4 c5 c6 c7 c8
      have HSP := Lib.hid (strOf_bytesOf p)
      have HAD := Lib.hid (HA.out.upd ((Upd.refl [] _).drew) (by simp))
      have HRD := Lib.hid (HRW.out.upd ((Upd.refl [] _).drew) (by simp))
      have HUD := Lib.hid HUQ.out.drew
      refine wp_region_held_drew (S := fun w' => Blk w' q0 [.int .i64 4, .string p, .string q, .int .i64 k, .int .i64 m, .int .u32 (t : Nat), .string D, .int .i64 n, v] 44) (by kernel_rfl) HBQ.out (fun hHeld => ?_)
      change wpAnyH _ _ _ _ _ 8 #[false, false, false, false, false, false, false, false] _ _
      refine heldTake (i := 0) (d := some 18) (v := ?v0_9) rfl rfl (by kernel_rfl) (by kernel_rfl) (by kernel_rfl) (fun _ _ _ h => h) (by rfl) ?hy0_9 (by assumption) ?r0_9
      case hy0_9 => (intro w hSw; (try dsimp only at hSw); go_simp; try with_reducible rfl)
      try simp only [Act.put, List.setIfInBounds_toArray, List.set_cons_zero, List.set_cons_succ]
      change wpAnyH _ _ _ _ _ 7 #[true, false, false, false, false, false, false, false] _ _
      refine heldTake (i := 1) (d := some 19) (v := ?v1_10) rfl rfl (by kernel_rfl) (by kernel_rfl) (by kernel_rfl) (fun _ _ _ h => h) (by rfl) ?hy1_10 (by assumption) ?r1_10
      case hy1_10 => (intro w hSw; (try dsimp only at hSw); go_simp; try with_reducible rfl)
      try simp only [Act.put, List.setIfInBounds_toArray, List.set_cons_zero, List.set_cons_succ]
      change wpAnyH _ _ _ _ _ 6 #[true, true, false, false, false, false, false, false] _ _
      refine heldTake (i := 2) (d := some 20) (v := ?v2_11) rfl rfl (by kernel_rfl) (by kernel_rfl) (by kernel_rfl) (fun _ _ _ h => h) (by rfl) ?hy2_11 (by assumption) ?r2_11
      case hy2_11 => (intro w5 hSw; have q0c := hSw.cell 1 rfl; have q0c0 := hSw.cell 0 rfl; have q0c1 := hSw.cell 1 rfl; have q0c2 := hSw.cell 2 rfl; have q0c3 := hSw.cell 3 rfl; have q0c4 := hSw.cell 4 rfl; have q0c5 := hSw.cell 5 rfl; have q0c6 := hSw.cell 6 rfl; have q0c7 := hSw.cell 7 rfl; have q0c8 := hSw.cell 8 rfl; go_simp; try with_reducible rfl)
      try simp only [Act.put, List.setIfInBounds_toArray, List.set_cons_zero, List.set_cons_succ]
      change wpAnyH _ _ _ _ _ 5 #[true, true, true, false, false, false, false, false] _ _
      refine heldTake (i := 3) (d := some 21) (v := ?v3_12) rfl rfl (by kernel_rfl) (by kernel_rfl) (by kernel_rfl) (fun _ _ _ h => h) (by rfl) ?hy3_12 (by assumption) ?r3_12
      case hy3_12 => (intro w hSw; (try dsimp only at hSw); go_simp; try with_reducible rfl)
      try simp only [Act.put, List.setIfInBounds_toArray, List.set_cons_zero, List.set_cons_succ]
      change wpAnyH _ _ _ _ _ 4 #[true, true, true, true, false, false, false, false] _ _
      refine heldTake (i := 4) (d := some 22) (v := ?v4_13) rfl rfl (by kernel_rfl) (by kernel_rfl) (by kernel_rfl) (fun _ _ _ h => h) (by rfl) ?hy4_13 (by assumption) ?r4_13
      case hy4_13 => (intro w5 hSw; have q0c := hSw.cell 3 rfl; have q0c0 := hSw.cell 0 rfl; have q0c1 := hSw.cell 1 rfl; have q0c2 := hSw.cell 2 rfl; have q0c3 := hSw.cell 3 rfl; have q0c4 := hSw.cell 4 rfl; have q0c5 := hSw.cell 5 rfl; have q0c6 := hSw.cell 6 rfl; have q0c7 := hSw.cell 7 rfl; have q0c8 := hSw.cell 8 rfl; go_simp; try with_reducible rfl)
      try simp only [Act.put, List.setIfInBounds_toArray, List.set_cons_zero, List.set_cons_succ]
      change wpAnyH _ _ _ _ _ 3 #[true, true, true, true, true, false, false, false] _ _
      refine wpAnyH_ready (rs := [5]) (by kernel_rfl) (by simp) ?_
      refine AllReadyH.cons rfl (fun K hK => ?_) AllReadyH.nil
      go_simp
      refine (HTX.out _).mono ?_
      rintro e z5 ⟨rfl, hz5⟩
      have HA5 := Lib.hid (HAD.out.upd hz5 (by simp))
      have HR5 := Lib.hid (HRD.out.upd hz5 (by simp))
      have HU5 := Lib.hid (HUD.out.then hz5)
      go_wp2
      refine hK.out _ _ (hHeld.upd hz5 (by simp)) (fun hHeld => ?_)
      clear hK K
      try simp only [Act.put, List.setIfInBounds_toArray, List.set_cons_zero, List.set_cons_succ]
      change wpAnyH _ _ _ _ _ 2 #[true, true, true, true, true, true, false, false] _ _
      refine wpAnyH_ready (rs := [6]) (by kernel_rfl) (by simp) ?_
      refine AllReadyH.cons rfl (fun K hK => ?_) AllReadyH.nil
      go_simp
      have HA6 := Lib.hid (HA5.out.alloc (.cells #[.string p, .string (strOf TX)] 9))
      have HR6 := Lib.hid (HR5.out.alloc (.cells #[.string p, .string (strOf TX)] 9))
      have HU6 := Lib.hid (HU5.out.alloc (.cells #[.string p, .string (strOf TX)] 9))
      have HN6 : Hid (Blk (z5.alloc (.cells #[.string p, .string (strOf TX)] 9)) z5.heap.size (strsV [bytesOf p, TX]) 9) := Lib.hid (by have h := Blk.new z5 [.string p, .string (strOf TX)] 9; unfold strsV; simp only [List.map_cons, List.map_nil, HSP.out]; exact h)
      go_wp2
      refine hK.out _ _ (hHeld.alloc _) (fun hHeld => ?_)
      clear hK K
      try simp only [Act.put, List.setIfInBounds_toArray, List.set_cons_zero, List.set_cons_succ]
      change wpAnyH _ _ _ _ _ 1 #[true, true, true, true, true, true, true, false] _ _
      refine wpAnyH_ready (rs := [7]) (by kernel_rfl) (by simp) ?_
      refine AllReadyH.cons rfl (fun K hK => ?_) AllReadyH.nil
      go_simp
      refine (line1_any a z5.heap.size (.slice (some ⟨g, 0, none⟩) 1 1) [nm] [bytesOf p, TX] _ HA6.out HR6.out HN6.out (by simp)).mono ?_
      rintro e z7 ⟨rfl, v6, hB6, hR6, hU6, _⟩
      have HU7 := Lib.hid (HU6.out.trans hU6 (fun k hk => by
        simp [Value.ownBlock] at hk
        rcases hk with rfl | rfl
        · exact .inr HLE.out
        · exact .inr HLG.out))
      have HB7 := Lib.hid hB6
      have HT7 : Hid (TextsAt z7 v6 (nm :: [bytesOf p, TX])) := Lib.hid (Row.textsAt (ps := nm :: [bytesOf p, TX]) (by simpa using hR6))
      go_wp2
      refine hK.out _ _ (hHeld.upd hU6 (by simp [Value.ownBlock]; exact HQA.out)) (fun hHeld => ?_)
      clear hK K
      try simp only [Act.put, List.setIfInBounds_toArray, List.set_cons_zero, List.set_cons_succ]
      change wpAnyH _ _ _ _ _ 0 #[true, true, true, true, true, true, true, true] _ _
      refine wpAnyH_done (by kernel_rfl) ?_ 0
      have HB6 := HB7
      have HT6 := HT7
      have HU6 := HU7
      clear HB7 HT7 HU7 hB6 hR6 hU6
      have d0 := HB6.out.cell 0 rfl
      go_wp2_with fail
      refine (joinC_any (nm :: [bytesOf p, TX]) 9 v6 _ HT6.out (fun p hp => (HBD.out p hp).2) (by have := HTT.out.2; omega) (by have := HTT.out.1; omega)).mono ?_
      rintro e w7 ⟨rfl, hu7⟩
      have HU7 := Lib.hid (HU6.out.then hu7)
      clear hu7
      go_wp2
      go_ret
      exact ⟨by rw [HV.out]; rfl, HU7.out⟩
    · have HA0 : Hid (argsE ⟨2, p, q, k, m, t, D, n, v, l⟩ = [bytesOf p]) := Lib.hid (by unfold argsE; rfl)
      rw [HA0.out] at HV HBD HTT
      clear HA0
      unfold EvN.val EvN.cells at *
      dsimp only at *
      obtain ⟨nm, hnm⟩ : ∃ nm, nameN 2 = nm := ⟨_, rfl⟩
      have HNM := Lib.hid (fun z => sname_any 2 z)
      rw [hnm] at HV HBD HTT HNM
      clear hnm
      go_enter Tryd.func44, Tryd.ntmps44
      go_wp2_with fail
      change Calls _ _ _ (w.alloc (.cells #[.int .i64 2, .string p, .string q, .int .i64 k, .int .i64 m, .int .u32 (t : Nat), .string D, .int .i64 n, v] 44)) _
      generalize w.alloc (.cells #[.int .i64 2, .string p, .string q, .int .i64 k, .int .i64 m, .int .u32 (t : Nat), .string D, .int .i64 n, v] 44) = w0 at *
      obtain ⟨q0, hq0⟩ : ∃ q0, w.heap.size = q0 := ⟨_, rfl⟩
      rw [hq0] at HB0 ⊢
      clear hq0
      refine (HR.out _ HU0.out).mono ?_
      rintro e w1 ⟨rfl, hu1⟩
      have HB1 := Lib.hid (HB0.out.upd hu1 (by simp))
      have HU1 := Lib.hid (HU0.out.then hu1)
      clear hu1 HB0 HU0 HR
      have c0 := HB1.out.cell 0 rfl
      go_wp2_with fail
      refine (HNM.out _).mono ?_
      rintro e w2 ⟨rfl, hw2⟩
      subst hw2
      go_upto_region 4 with fail
      have HG : Hid (Blk ((w2.alloc (.cells #[.string (strOf nm)] 9)).alloc (.cells #[(.slice (some ⟨w2.heap.size, 0, none⟩) 1 1)] 40)) w2.heap.size [.string (strOf nm)] 9) := Lib.hid ((Blk.new w2 [.string (strOf nm)] 9).alloc _)
      have HA : Hid (Blk ((w2.alloc (.cells #[.string (strOf nm)] 9)).alloc (.cells #[(.slice (some ⟨w2.heap.size, 0, none⟩) 1 1)] 40)) (w2.heap.size + 1) [(.slice (some ⟨w2.heap.size, 0, none⟩) 1 1)] 40) := Lib.hid (by
        have h := Blk.new (w2.alloc (.cells #[.string (strOf nm)] 9)) [(.slice (some ⟨w2.heap.size, 0, none⟩) 1 1)] 40
        simpa using h)
      have HRW : Hid (Row ((w2.alloc (.cells #[.string (strOf nm)] 9)).alloc (.cells #[(.slice (some ⟨w2.heap.size, 0, none⟩) 1 1)] 40)) 9 1 (.slice (some ⟨w2.heap.size, 0, none⟩) 1 1) 1 (strsV [nm])) := Lib.hid ((Row.new w2 [.string (strOf nm)] 9 1 1 (by unfold maxLen; omega) rfl).alloc _)
      have HBQ := Lib.hid ((HB1.out.alloc (.cells #[.string (strOf nm)] 9)).alloc (.cells #[(.slice (some ⟨w2.heap.size, 0, none⟩) 1 1)] 40))
      have HUQ := Lib.hid ((HU1.out.alloc (.cells #[.string (strOf nm)] 9)).alloc (.cells #[(.slice (some ⟨w2.heap.size, 0, none⟩) 1 1)] 40))
      have HLE : Hid (w.heap.size ≤ w2.heap.size + 1) := Lib.hid (by have := HU1.out.size; omega)
      have HLG : Hid (w.heap.size ≤ w2.heap.size) := Lib.hid HU1.out.size
      have HQ2 : Hid (q0 < w2.heap.size) := Lib.hid HB1.out.lt
      change Code.wp _ _ _ _ ((w2.alloc (.cells #[.string (strOf nm)] 9)).alloc (.cells #[(.slice (some ⟨w2.heap.size, 0, none⟩) 1 1)] 40))
      generalize ((w2.alloc (.cells #[.string (strOf nm)] 9)).alloc (.cells #[(.slice (some ⟨w2.heap.size, 0, none⟩) 1 1)] 40)) = w4 at *
      clear HB1 HU1 c0
      have HQA : Hid (q0 ≠ w2.heap.size + 1 ∧ q0 ≠ w2.heap.size) := Lib.hid (by have := HQ2.out; omega)
      generalize w2.heap.size + 1 = a at *
      generalize w2.heap.size = g at *
      have c0 := HBQ.out.cell 0 rfl
      have c1 := HBQ.out.cell 1 rfl
      have c2 := HBQ.out.cell 2 rfl
      have c3 := HBQ.out.cell 3 rfl
      have c4 := HBQ.out.cell 4 rfl
      have c5 := HBQ.out.cell 5 rfl
      have c6 := HBQ.out.cell 6 rfl
      have c7 := HBQ.out.cell 7 rfl
      have c8 := HBQ.out.cell 8 rfl
      have HSP := Lib.hid (strOf_bytesOf p)
      have HBX := Lib.hid (HBQ.out.alloc (.cells #[.string p] 9))
      have HAX := Lib.hid (HA.out.alloc (.cells #[.string p] 9))
      have HRX := Lib.hid (HRW.out.alloc (.cells #[.string p] 9))
      have HUX := Lib.hid (HUQ.out.alloc (.cells #[.string p] 9))
      have HNX : Hid (Blk (w4.alloc (.cells #[.string p] 9)) w4.heap.size (strsV [bytesOf p]) 9) := Lib.hid (by have h := Blk.new w4 [.string p] 9; unfold strsV; simp only [List.map_cons, List.map_nil, HSP.out]; exact h)
      go_wp2_with fail
      refine (line1_any a w4.heap.size (.slice (some ⟨g, 0, none⟩) 1 1) [nm] [bytesOf p] _ HAX.out HRX.out HNX.out (by have := HTT.out.2; simp at this ⊢ <;> omega)).mono ?_
      rintro e w6 ⟨rfl, v6, hB6, hR6, hU6, _⟩
      have HU6 := Lib.hid (HUX.out.trans hU6 (fun k hk => by
        simp [Value.ownBlock] at hk
        rcases hk with rfl | rfl
        · exact .inr HLE.out
        · exact .inr HLG.out))
      have HB6 := Lib.hid hB6
      have HT6 : Hid (TextsAt w6 v6 (nm :: [bytesOf p])) := Lib.hid (Row.textsAt (ps := nm :: [bytesOf p]) (by simpa using hR6))
      clear hB6 hR6 hU6
      clear c0 c1 c2 c3 c4 c5 c6 c7 c8
      have d0 := HB6.out.cell 0 rfl
      go_wp2_with fail
      refine (joinC_any (nm :: [bytesOf p]) 9 v6 _ HT6.out (fun p hp => (HBD.out p hp).2) (by have := HTT.out.2; omega) (by have := HTT.out.1; omega)).mono ?_
      rintro e w7 ⟨rfl, hu7⟩
      have HU7 := Lib.hid (HU6.out.then hu7)
      clear hu7
      go_wp2
      go_ret
      exact ⟨by rw [HV.out]; rfl, HU7.out⟩
    · have HA0 : Hid (argsE ⟨3, p, q, k, m, t, D, n, v, l⟩ = [bytesOf p, bytesOf q]) := Lib.hid (by unfold argsE; rfl)
      rw [HA0.out] at HV HBD HTT
      clear HA0
      unfold EvN.val EvN.cells at *
      dsimp only at *
      obtain ⟨nm, hnm⟩ : ∃ nm, nameN 3 = nm := ⟨_, rfl⟩
      have HNM := Lib.hid (fun z => sname_any 3 z)
      rw [hnm] at HV HBD HTT HNM
      clear hnm
      go_enter Tryd.func44, Tryd.ntmps44
      go_wp2_with fail
      change Calls _ _ _ (w.alloc (.cells #[.int .i64 3, .string p, .string q, .int .i64 k, .int .i64 m, .int .u32 (t : Nat), .string D, .int .i64 n, v] 44)) _
      generalize w.alloc (.cells #[.int .i64 3, .string p, .string q, .int .i64 k, .int .i64 m, .int .u32 (t : Nat), .string D, .int .i64 n, v] 44) = w0 at *
      obtain ⟨q0, hq0⟩ : ∃ q0, w.heap.size = q0 := ⟨_, rfl⟩
      rw [hq0] at HB0 ⊢
      clear hq0
      refine (HR.out _ HU0.out).mono ?_
      rintro e w1 ⟨rfl, hu1⟩
      have HB1 := Lib.hid (HB0.out.upd hu1 (by simp))
      have HU1 := Lib.hid (HU0.out.then hu1)
      clear hu1 HB0 HU0 HR
      have c0 := HB1.out.cell 0 rfl
      go_wp2_with fail
      refine (HNM.out _).mono ?_
      rintro e w2 ⟨rfl, hw2⟩
      subst hw2
      go_upto_region 4 with fail
      have HG : Hid (Blk ((w2.alloc (.cells #[.string (strOf nm)] 9)).alloc (.cells #[(.slice (some ⟨w2.heap.size, 0, none⟩) 1 1)] 40)) w2.heap.size [.string (strOf nm)] 9) := Lib.hid ((Blk.new w2 [.string (strOf nm)] 9).alloc _)
      have HA : Hid (Blk ((w2.alloc (.cells #[.string (strOf nm)] 9)).alloc (.cells #[(.slice (some ⟨w2.heap.size, 0, none⟩) 1 1)] 40)) (w2.heap.size + 1) [(.slice (some ⟨w2.heap.size, 0, none⟩) 1 1)] 40) := Lib.hid (by
        have h := Blk.new (w2.alloc (.cells #[.string (strOf nm)] 9)) [(.slice (some ⟨w2.heap.size, 0, none⟩) 1 1)] 40
        simpa using h)
      have HRW : Hid (Row ((w2.alloc (.cells #[.string (strOf nm)] 9)).alloc (.cells #[(.slice (some ⟨w2.heap.size, 0, none⟩) 1 1)] 40)) 9 1 (.slice (some ⟨w2.heap.size, 0, none⟩) 1 1) 1 (strsV [nm])) := Lib.hid ((Row.new w2 [.string (strOf nm)] 9 1 1 (by unfold maxLen; omega) rfl).alloc _)
      have HBQ := Lib.hid ((HB1.out.alloc (.cells #[.string (strOf nm)] 9)).alloc (.cells #[(.slice (some ⟨w2.heap.size, 0, none⟩) 1 1)] 40))
      have HUQ := Lib.hid ((HU1.out.alloc (.cells #[.string (strOf nm)] 9)).alloc (.cells #[(.slice (some ⟨w2.heap.size, 0, none⟩) 1 1)] 40))
      have HLE : Hid (w.heap.size ≤ w2.heap.size + 1) := Lib.hid (by have := HU1.out.size; omega)
      have HLG : Hid (w.heap.size ≤ w2.heap.size) := Lib.hid HU1.out.size
      have HQ2 : Hid (q0 < w2.heap.size) := Lib.hid HB1.out.lt
      change Code.wp _ _ _ _ ((w2.alloc (.cells #[.string (strOf nm)] 9)).alloc (.cells #[(.slice (some ⟨w2.heap.size, 0, none⟩) 1 1)] 40))
      generalize ((w2.alloc (.cells #[.string (strOf nm)] 9)).alloc (.cells #[(.slice (some ⟨w2.heap.size, 0, none⟩) 1 1)] 40)) = w4 at *
      clear HB1 HU1 c0
      have HQA : Hid (q0 ≠ w2.heap.size + 1 ∧ q0 ≠ w2.heap.size) := Lib.hid (by have := HQ2.out; omega)
      generalize w2.heap.size + 1 = a at *
      generalize w2.heap.size = g at *
      have c0 := HBQ.out.cell 0 rfl
      have c1 := HBQ.out.cell 1 rfl
      have c2 := HBQ.out.cell 2 rfl
      have c3 := HBQ.out.cell 3 rfl
      have c4 := HBQ.out.cell 4 rfl
      have c5 := HBQ.out.cell 5 rfl
      have c6 := HBQ.out.cell 6 rfl
      have c7 := HBQ.out.cell 7 rfl
      have c8 := HBQ.out.cell 8 rfl
      have HSP := Lib.hid (strOf_bytesOf p)
      have HSQ := Lib.hid (strOf_bytesOf q)
      have HBX := Lib.hid (HBQ.out.alloc (.cells #[.string p, .string q] 9))
      have HAX := Lib.hid (HA.out.alloc (.cells #[.string p, .string q] 9))
      have HRX := Lib.hid (HRW.out.alloc (.cells #[.string p, .string q] 9))
      have HUX := Lib.hid (HUQ.out.alloc (.cells #[.string p, .string q] 9))
      have HNX : Hid (Blk (w4.alloc (.cells #[.string p, .string q] 9)) w4.heap.size (strsV [bytesOf p, bytesOf q]) 9) := Lib.hid (by have h := Blk.new w4 [.string p, .string q] 9; unfold strsV; simp only [List.map_cons, List.map_nil, HSP.out, HSQ.out]; exact h)
      go_wp2_with fail
      refine (line1_any a w4.heap.size (.slice (some ⟨g, 0, none⟩) 1 1) [nm] [bytesOf p, bytesOf q] _ HAX.out HRX.out HNX.out (by have := HTT.out.2; simp at this ⊢ <;> omega)).mono ?_
      rintro e w6 ⟨rfl, v6, hB6, hR6, hU6, _⟩
      have HU6 := Lib.hid (HUX.out.trans hU6 (fun k hk => by
        simp [Value.ownBlock] at hk
        rcases hk with rfl | rfl
        · exact .inr HLE.out
        · exact .inr HLG.out))
      have HB6 := Lib.hid hB6
      have HT6 : Hid (TextsAt w6 v6 (nm :: [bytesOf p, bytesOf q])) := Lib.hid (Row.textsAt (ps := nm :: [bytesOf p, bytesOf q]) (by simpa using hR6))
      clear hB6 hR6 hU6
      clear c0 c1 c2 c3 c4 c5 c6 c7 c8
      have d0 := HB6.out.cell 0 rfl
      go_wp2_with fail
      refine (joinC_any (nm :: [bytesOf p, bytesOf q]) 9 v6 _ HT6.out (fun p hp => (HBD.out p hp).2) (by have := HTT.out.2; omega) (by have := HTT.out.1; omega)).mono ?_
      rintro e w7 ⟨rfl, hu7⟩
      have HU7 := Lib.hid (HU6.out.then hu7)
      clear hu7
      go_wp2
      go_ret
      exact ⟨by rw [HV.out]; rfl, HU7.out⟩
    · have hn5 : 0 ≤ n ∧ n ≤ 3 := by have := HMA.out; unfold mayE at this; simpa using this
      have HPN := Lib.hid (fun z => srname_any n z hn5)
      obtain ⟨PN, hPN⟩ : ∃ PN, polN n = PN := ⟨_, rfl⟩
      rw [hPN] at HPN
      have HA0 : Hid (argsE ⟨5, p, q, k, m, t, D, n, v, l⟩ = [PN]) := Lib.hid (by unfold argsE; rw [← hPN]; rfl)
      rw [HA0.out] at HV HBD HTT
      clear HA0
      unfold EvN.val EvN.cells at *
      dsimp only at *
      obtain ⟨nm, hnm⟩ : ∃ nm, nameN 5 = nm := ⟨_, rfl⟩
      have HNM := Lib.hid (fun z => sname_any 5 z)
      rw [hnm] at HV HBD HTT HNM
      clear hnm
      go_enter Tryd.func44, Tryd.ntmps44
      go_wp2_with fail
      change Calls _ _ _ (w.alloc (.cells #[.int .i64 5, .string p, .string q, .int .i64 k, .int .i64 m, .int .u32 (t : Nat), .string D, .int .i64 n, v] 44)) _
      generalize w.alloc (.cells #[.int .i64 5, .string p, .string q, .int .i64 k, .int .i64 m, .int .u32 (t : Nat), .string D, .int .i64 n, v] 44) = w0 at *
      obtain ⟨q0, hq0⟩ : ∃ q0, w.heap.size = q0 := ⟨_, rfl⟩
      rw [hq0] at HB0 ⊢
      clear hq0
      refine (HR.out _ HU0.out).mono ?_
      rintro e w1 ⟨rfl, hu1⟩
      have HB1 := Lib.hid (HB0.out.upd hu1 (by simp))
      have HU1 := Lib.hid (HU0.out.then hu1)
      clear hu1 HB0 HU0 HR
      have c0 := HB1.out.cell 0 rfl
      go_wp2_with fail
      refine (HNM.out _).mono ?_
      rintro e w2 ⟨rfl, hw2⟩
      subst hw2
      go_upto_region 4 with fail
      have HG : Hid (Blk ((w2.alloc (.cells #[.string (strOf nm)] 9)).alloc (.cells #[(.slice (some ⟨w2.heap.size, 0, none⟩) 1 1)] 40)) w2.heap.size [.string (strOf nm)] 9) := Lib.hid ((Blk.new w2 [.string (strOf nm)] 9).alloc _)
      have HA : Hid (Blk ((w2.alloc (.cells #[.string (strOf nm)] 9)).alloc (.cells #[(.slice (some ⟨w2.heap.size, 0, none⟩) 1 1)] 40)) (w2.heap.size + 1) [(.slice (some ⟨w2.heap.size, 0, none⟩) 1 1)] 40) := Lib.hid (by
        have h := Blk.new (w2.alloc (.cells #[.string (strOf nm)] 9)) [(.slice (some ⟨w2.heap.size, 0, none⟩) 1 1)] 40
        simpa using h)
      have HRW : Hid (Row ((w2.alloc (.cells #[.string (strOf nm)] 9)).alloc (.cells #[(.slice (some ⟨w2.heap.size, 0, none⟩) 1 1)] 40)) 9 1 (.slice (some ⟨w2.heap.size, 0, none⟩) 1 1) 1 (strsV [nm])) := Lib.hid ((Row.new w2 [.string (strOf nm)] 9 1 1 (by unfold maxLen; omega) rfl).alloc _)
      have HBQ := Lib.hid ((HB1.out.alloc (.cells #[.string (strOf nm)] 9)).alloc (.cells #[(.slice (some ⟨w2.heap.size, 0, none⟩) 1 1)] 40))
      have HUQ := Lib.hid ((HU1.out.alloc (.cells #[.string (strOf nm)] 9)).alloc (.cells #[(.slice (some ⟨w2.heap.size, 0, none⟩) 1 1)] 40))
      have HLE : Hid (w.heap.size ≤ w2.heap.size + 1) := Lib.hid (by have := HU1.out.size; omega)
      have HLG : Hid (w.heap.size ≤ w2.heap.size) := Lib.hid HU1.out.size
      have HQ2 : Hid (q0 < w2.heap.size) := Lib.hid HB1.out.lt
      change Code.wp _ _ _ _ ((w2.alloc (.cells #[.string (strOf nm)] 9)).alloc (.cells #[(.slice (some ⟨w2.heap.size, 0, none⟩) 1 1)] 40))
      generalize ((w2.alloc (.cells #[.string (strOf nm)] 9)).alloc (.cells #[(.slice (some ⟨w2.heap.size, 0, none⟩) 1 1)] 40)) = w4 at *
      clear HB1 HU1 c0
      have HQA : Hid (q0 ≠ w2.heap.size + 1 ∧ q0 ≠ w2.heap.size) := Lib.hid (by have := HQ2.out; omega)
      generalize w2.heap.size + 1 = a at *
      generalize w2.heap.size = g at *
      clear hPN
      have c0 := HBQ.out.cell 0 rfl
      have c1 := HBQ.out.cell 1 rfl
      have c2 := HBQ.out.cell 2 rfl
      have c3 := HBQ.out.cell 3 rfl
      have c4 := HBQ.out.cell 4 rfl
      have c5 := HBQ.out.cell 5 rfl
      have c6 := HBQ.out.cell 6 rfl
      have c7 := HBQ.out.cell 7 rfl
      have c8 := HBQ.out.cell 8 rfl
      go_wp2_with fail
      refine (HPN.out _).mono ?_
      rintro e w5 ⟨rfl, hw5⟩
      subst hw5
      have HBX := Lib.hid (HBQ.out.alloc (.cells #[.string (strOf PN)] 9))
      have HAX := Lib.hid (HA.out.alloc (.cells #[.string (strOf PN)] 9))
      have HRX := Lib.hid (HRW.out.alloc (.cells #[.string (strOf PN)] 9))
      have HUX := Lib.hid (HUQ.out.alloc (.cells #[.string (strOf PN)] 9))
      have HNX : Hid (Blk (w5.alloc (.cells #[.string (strOf PN)] 9)) w5.heap.size (strsV [PN]) 9) := Lib.hid (Blk.new w5 [.string (strOf PN)] 9)
      go_wp2_with fail
      refine (line1_any a w5.heap.size (.slice (some ⟨g, 0, none⟩) 1 1) [nm] [PN] _ HAX.out HRX.out HNX.out (by have := HTT.out.2; simp at this ⊢ <;> omega)).mono ?_
      rintro e w6 ⟨rfl, v6, hB6, hR6, hU6, _⟩
      have HU6 := Lib.hid (HUX.out.trans hU6 (fun k hk => by
        simp [Value.ownBlock] at hk
        rcases hk with rfl | rfl
        · exact .inr HLE.out
        · exact .inr HLG.out))
      have HB6 := Lib.hid hB6
      have HT6 : Hid (TextsAt w6 v6 (nm :: [PN])) := Lib.hid (Row.textsAt (ps := nm :: [PN]) (by simpa using hR6))
      clear hB6 hR6 hU6
      clear c0 c1 c2 c3 c4 c5 c6 c7 c8
      have d0 := HB6.out.cell 0 rfl
      go_wp2_with fail
      refine (joinC_any (nm :: [PN]) 9 v6 _ HT6.out (fun p hp => (HBD.out p hp).2) (by have := HTT.out.2; omega) (by have := HTT.out.1; omega)).mono ?_
      rintro e w7 ⟨rfl, hu7⟩
      have HU7 := Lib.hid (HU6.out.then hu7)
      clear hu7
      go_wp2
      go_ret
      exact ⟨by rw [HV.out]; rfl, HU7.out⟩
    · have hn5 : -1 ≤ n ∧ n ≤ 100000 := by have := HMA.out; unfold mayE at this; simpa using this
      have HDN := Lib.hid (fun z => sdec_any n z (by omega) (by omega))
      obtain ⟨DN, hDN⟩ : ∃ DN, decZ n = DN := ⟨_, rfl⟩
      rw [hDN] at HDN
      have HA0 : Hid (argsE ⟨11, p, q, k, m, t, D, n, v, l⟩ = [DN]) := Lib.hid (by unfold argsE; rw [← hDN]; rfl)
      rw [HA0.out] at HV HBD HTT
      clear HA0
      unfold EvN.val EvN.cells at *
      dsimp only at *
      obtain ⟨nm, hnm⟩ : ∃ nm, nameN 11 = nm := ⟨_, rfl⟩
      have HNM := Lib.hid (fun z => sname_any 11 z)
      rw [hnm] at HV HBD HTT HNM
      clear hnm
      go_enter Tryd.func44, Tryd.ntmps44
      go_wp2_with fail
      change Calls _ _ _ (w.alloc (.cells #[.int .i64 11, .string p, .string q, .int .i64 k, .int .i64 m, .int .u32 (t : Nat), .string D, .int .i64 n, v] 44)) _
      generalize w.alloc (.cells #[.int .i64 11, .string p, .string q, .int .i64 k, .int .i64 m, .int .u32 (t : Nat), .string D, .int .i64 n, v] 44) = w0 at *
      obtain ⟨q0, hq0⟩ : ∃ q0, w.heap.size = q0 := ⟨_, rfl⟩
      rw [hq0] at HB0 ⊢
      clear hq0
      refine (HR.out _ HU0.out).mono ?_
      rintro e w1 ⟨rfl, hu1⟩
      have HB1 := Lib.hid (HB0.out.upd hu1 (by simp))
      have HU1 := Lib.hid (HU0.out.then hu1)
      clear hu1 HB0 HU0 HR
      have c0 := HB1.out.cell 0 rfl
      go_wp2_with fail
      refine (HNM.out _).mono ?_
      rintro e w2 ⟨rfl, hw2⟩
      subst hw2
      go_upto_region 4 with fail
      have HG : Hid (Blk ((w2.alloc (.cells #[.string (strOf nm)] 9)).alloc (.cells #[(.slice (some ⟨w2.heap.size, 0, none⟩) 1 1)] 40)) w2.heap.size [.string (strOf nm)] 9) := Lib.hid ((Blk.new w2 [.string (strOf nm)] 9).alloc _)
      have HA : Hid (Blk ((w2.alloc (.cells #[.string (strOf nm)] 9)).alloc (.cells #[(.slice (some ⟨w2.heap.size, 0, none⟩) 1 1)] 40)) (w2.heap.size + 1) [(.slice (some ⟨w2.heap.size, 0, none⟩) 1 1)] 40) := Lib.hid (by
        have h := Blk.new (w2.alloc (.cells #[.string (strOf nm)] 9)) [(.slice (some ⟨w2.heap.size, 0, none⟩) 1 1)] 40
        simpa using h)
      have HRW : Hid (Row ((w2.alloc (.cells #[.string (strOf nm)] 9)).alloc (.cells #[(.slice (some ⟨w2.heap.size, 0, none⟩) 1 1)] 40)) 9 1 (.slice (some ⟨w2.heap.size, 0, none⟩) 1 1) 1 (strsV [nm])) := Lib.hid ((Row.new w2 [.string (strOf nm)] 9 1 1 (by unfold maxLen; omega) rfl).alloc _)
      have HBQ := Lib.hid ((HB1.out.alloc (.cells #[.string (strOf nm)] 9)).alloc (.cells #[(.slice (some ⟨w2.heap.size, 0, none⟩) 1 1)] 40))
      have HUQ := Lib.hid ((HU1.out.alloc (.cells #[.string (strOf nm)] 9)).alloc (.cells #[(.slice (some ⟨w2.heap.size, 0, none⟩) 1 1)] 40))
      have HLE : Hid (w.heap.size ≤ w2.heap.size + 1) := Lib.hid (by have := HU1.out.size; omega)
      have HLG : Hid (w.heap.size ≤ w2.heap.size) := Lib.hid HU1.out.size
      have HQ2 : Hid (q0 < w2.heap.size) := Lib.hid HB1.out.lt
      change Code.wp _ _ _ _ ((w2.alloc (.cells #[.string (strOf nm)] 9)).alloc (.cells #[(.slice (some ⟨w2.heap.size, 0, none⟩) 1 1)] 40))
      generalize ((w2.alloc (.cells #[.string (strOf nm)] 9)).alloc (.cells #[(.slice (some ⟨w2.heap.size, 0, none⟩) 1 1)] 40)) = w4 at *
      clear HB1 HU1 c0
      have HQA : Hid (q0 ≠ w2.heap.size + 1 ∧ q0 ≠ w2.heap.size) := Lib.hid (by have := HQ2.out; omega)
      generalize w2.heap.size + 1 = a at *
      generalize w2.heap.size = g at *
      clear hDN
      have c0 := HBQ.out.cell 0 rfl
      have c1 := HBQ.out.cell 1 rfl
      have c2 := HBQ.out.cell 2 rfl
      have c3 := HBQ.out.cell 3 rfl
      have c4 := HBQ.out.cell 4 rfl
      have c5 := HBQ.out.cell 5 rfl
      have c6 := HBQ.out.cell 6 rfl
      have c7 := HBQ.out.cell 7 rfl
      have c8 := HBQ.out.cell 8 rfl
      go_wp2_with fail
      refine (HDN.out _).mono ?_
      rintro e w5 ⟨rfl, hu5⟩
      have HBQ := Lib.hid (HBQ.out.upd hu5 (by simp))
      have HA := Lib.hid (HA.out.upd hu5 (by simp))
      have HRW := Lib.hid (HRW.out.upd hu5 (by simp))
      have HUQ := Lib.hid (HUQ.out.then hu5)
      clear hu5
      clear c0 c1 c2 c3 c4 c5 c6 c7 c8
      have HBX := Lib.hid (HBQ.out.alloc (.cells #[.string (strOf DN)] 9))
      have HAX := Lib.hid (HA.out.alloc (.cells #[.string (strOf DN)] 9))
      have HRX := Lib.hid (HRW.out.alloc (.cells #[.string (strOf DN)] 9))
      have HUX := Lib.hid (HUQ.out.alloc (.cells #[.string (strOf DN)] 9))
      have HNX : Hid (Blk (w5.alloc (.cells #[.string (strOf DN)] 9)) w5.heap.size (strsV [DN]) 9) := Lib.hid (Blk.new w5 [.string (strOf DN)] 9)
      go_wp2_with fail
      refine (line1_any a w5.heap.size (.slice (some ⟨g, 0, none⟩) 1 1) [nm] [DN] _ HAX.out HRX.out HNX.out (by have := HTT.out.2; simp at this ⊢ <;> omega)).mono ?_
      rintro e w6 ⟨rfl, v6, hB6, hR6, hU6, _⟩
      have HU6 := Lib.hid (HUX.out.trans hU6 (fun k hk => by
        simp [Value.ownBlock] at hk
        rcases hk with rfl | rfl
        · exact .inr HLE.out
        · exact .inr HLG.out))
      have HB6 := Lib.hid hB6
      have HT6 : Hid (TextsAt w6 v6 (nm :: [DN])) := Lib.hid (Row.textsAt (ps := nm :: [DN]) (by simpa using hR6))
      clear hB6 hR6 hU6
      have d0 := HB6.out.cell 0 rfl
      go_wp2_with fail
      refine (joinC_any (nm :: [DN]) 9 v6 _ HT6.out (fun p hp => (HBD.out p hp).2) (by have := HTT.out.2; omega) (by have := HTT.out.1; omega)).mono ?_
      rintro e w7 ⟨rfl, hu7⟩
      have HU7 := Lib.hid (HU6.out.then hu7)
      clear hu7
      go_wp2
      go_ret
      exact ⟨by rw [HV.out]; rfl, HU7.out⟩
    · have hn5 : -1 ≤ n ∧ n ≤ 100000 := by have := HMA.out; unfold mayE at this; simpa using this
      have HDN := Lib.hid (fun z => sdec_any n z (by omega) (by omega))
      obtain ⟨DN, hDN⟩ : ∃ DN, decZ n = DN := ⟨_, rfl⟩
      rw [hDN] at HDN
      have HA0 : Hid (argsE ⟨12, p, q, k, m, t, D, n, v, l⟩ = [DN]) := Lib.hid (by unfold argsE; rw [← hDN]; rfl)
      rw [HA0.out] at HV HBD HTT
      clear HA0
      unfold EvN.val EvN.cells at *
      dsimp only at *
      obtain ⟨nm, hnm⟩ : ∃ nm, nameN 12 = nm := ⟨_, rfl⟩
      have HNM := Lib.hid (fun z => sname_any 12 z)
      rw [hnm] at HV HBD HTT HNM
      clear hnm
      go_enter Tryd.func44, Tryd.ntmps44
      go_wp2_with fail
      change Calls _ _ _ (w.alloc (.cells #[.int .i64 12, .string p, .string q, .int .i64 k, .int .i64 m, .int .u32 (t : Nat), .string D, .int .i64 n, v] 44)) _
      generalize w.alloc (.cells #[.int .i64 12, .string p, .string q, .int .i64 k, .int .i64 m, .int .u32 (t : Nat), .string D, .int .i64 n, v] 44) = w0 at *
      obtain ⟨q0, hq0⟩ : ∃ q0, w.heap.size = q0 := ⟨_, rfl⟩
      rw [hq0] at HB0 ⊢
      clear hq0
      refine (HR.out _ HU0.out).mono ?_
      rintro e w1 ⟨rfl, hu1⟩
      have HB1 := Lib.hid (HB0.out.upd hu1 (by simp))
      have HU1 := Lib.hid (HU0.out.then hu1)
      clear hu1 HB0 HU0 HR
      have c0 := HB1.out.cell 0 rfl
      go_wp2_with fail
      refine (HNM.out _).mono ?_
      rintro e w2 ⟨rfl, hw2⟩
      subst hw2
      go_upto_region 4 with fail
      have HG : Hid (Blk ((w2.alloc (.cells #[.string (strOf nm)] 9)).alloc (.cells #[(.slice (some ⟨w2.heap.size, 0, none⟩) 1 1)] 40)) w2.heap.size [.string (strOf nm)] 9) := Lib.hid ((Blk.new w2 [.string (strOf nm)] 9).alloc _)
      have HA : Hid (Blk ((w2.alloc (.cells #[.string (strOf nm)] 9)).alloc (.cells #[(.slice (some ⟨w2.heap.size, 0, none⟩) 1 1)] 40)) (w2.heap.size + 1) [(.slice (some ⟨w2.heap.size, 0, none⟩) 1 1)] 40) := Lib.hid (by
        have h := Blk.new (w2.alloc (.cells #[.string (strOf nm)] 9)) [(.slice (some ⟨w2.heap.size, 0, none⟩) 1 1)] 40
        simpa using h)
      have HRW : Hid (Row ((w2.alloc (.cells #[.string (strOf nm)] 9)).alloc (.cells #[(.slice (some ⟨w2.heap.size, 0, none⟩) 1 1)] 40)) 9 1 (.slice (some ⟨w2.heap.size, 0, none⟩) 1 1) 1 (strsV [nm])) := Lib.hid ((Row.new w2 [.string (strOf nm)] 9 1 1 (by unfold maxLen; omega) rfl).alloc _)
      have HBQ := Lib.hid ((HB1.out.alloc (.cells #[.string (strOf nm)] 9)).alloc (.cells #[(.slice (some ⟨w2.heap.size, 0, none⟩) 1 1)] 40))
      have HUQ := Lib.hid ((HU1.out.alloc (.cells #[.string (strOf nm)] 9)).alloc (.cells #[(.slice (some ⟨w2.heap.size, 0, none⟩) 1 1)] 40))
      have HLE : Hid (w.heap.size ≤ w2.heap.size + 1) := Lib.hid (by have := HU1.out.size; omega)
      have HLG : Hid (w.heap.size ≤ w2.heap.size) := Lib.hid HU1.out.size
      have HQ2 : Hid (q0 < w2.heap.size) := Lib.hid HB1.out.lt
      change Code.wp _ _ _ _ ((w2.alloc (.cells #[.string (strOf nm)] 9)).alloc (.cells #[(.slice (some ⟨w2.heap.size, 0, none⟩) 1 1)] 40))
      generalize ((w2.alloc (.cells #[.string (strOf nm)] 9)).alloc (.cells #[(.slice (some ⟨w2.heap.size, 0, none⟩) 1 1)] 40)) = w4 at *
      clear HB1 HU1 c0
      have HQA : Hid (q0 ≠ w2.heap.size + 1 ∧ q0 ≠ w2.heap.size) := Lib.hid (by have := HQ2.out; omega)
      generalize w2.heap.size + 1 = a at *
      generalize w2.heap.size = g at *
      clear hDN
      have c0 := HBQ.out.cell 0 rfl
      have c1 := HBQ.out.cell 1 rfl
      have c2 := HBQ.out.cell 2 rfl
      have c3 := HBQ.out.cell 3 rfl
      have c4 := HBQ.out.cell 4 rfl
      have c5 := HBQ.out.cell 5 rfl
      have c6 := HBQ.out.cell 6 rfl
      have c7 := HBQ.out.cell 7 rfl
      have c8 := HBQ.out.cell 8 rfl
      go_wp2_with fail
      refine (HDN.out _).mono ?_
      rintro e w5 ⟨rfl, hu5⟩
      have HBQ := Lib.hid (HBQ.out.upd hu5 (by simp))
      have HA := Lib.hid (HA.out.upd hu5 (by simp))
      have HRW := Lib.hid (HRW.out.upd hu5 (by simp))
      have HUQ := Lib.hid (HUQ.out.then hu5)
      clear hu5
      clear c0 c1 c2 c3 c4 c5 c6 c7 c8
      have HBX := Lib.hid (HBQ.out.alloc (.cells #[.string (strOf DN)] 9))
      have HAX := Lib.hid (HA.out.alloc (.cells #[.string (strOf DN)] 9))
      have HRX := Lib.hid (HRW.out.alloc (.cells #[.string (strOf DN)] 9))
      have HUX := Lib.hid (HUQ.out.alloc (.cells #[.string (strOf DN)] 9))
      have HNX : Hid (Blk (w5.alloc (.cells #[.string (strOf DN)] 9)) w5.heap.size (strsV [DN]) 9) := Lib.hid (Blk.new w5 [.string (strOf DN)] 9)
      go_wp2_with fail
      refine (line1_any a w5.heap.size (.slice (some ⟨g, 0, none⟩) 1 1) [nm] [DN] _ HAX.out HRX.out HNX.out (by have := HTT.out.2; simp at this ⊢ <;> omega)).mono ?_
      rintro e w6 ⟨rfl, v6, hB6, hR6, hU6, _⟩
      have HU6 := Lib.hid (HUX.out.trans hU6 (fun k hk => by
        simp [Value.ownBlock] at hk
        rcases hk with rfl | rfl
        · exact .inr HLE.out
        · exact .inr HLG.out))
      have HB6 := Lib.hid hB6
      have HT6 : Hid (TextsAt w6 v6 (nm :: [DN])) := Lib.hid (Row.textsAt (ps := nm :: [DN]) (by simpa using hR6))
      clear hB6 hR6 hU6
      have d0 := HB6.out.cell 0 rfl
      go_wp2_with fail
      refine (joinC_any (nm :: [DN]) 9 v6 _ HT6.out (fun p hp => (HBD.out p hp).2) (by have := HTT.out.2; omega) (by have := HTT.out.1; omega)).mono ?_
      rintro e w7 ⟨rfl, hu7⟩
      have HU7 := Lib.hid (HU6.out.then hu7)
      clear hu7
      go_wp2
      go_ret
      exact ⟨by rw [HV.out]; rfl, HU7.out⟩
    · have hn5 : -1 ≤ n ∧ n ≤ 100000 := by have := HMA.out; unfold mayE at this; simpa using this
      have HDN := Lib.hid (fun z => sdec_any n z (by omega) (by omega))
      obtain ⟨DN, hDN⟩ : ∃ DN, decZ n = DN := ⟨_, rfl⟩
      rw [hDN] at HDN
      have HA0 : Hid (argsE ⟨13, p, q, k, m, t, D, n, v, l⟩ = [DN]) := Lib.hid (by unfold argsE; rw [← hDN]; rfl)
      rw [HA0.out] at HV HBD HTT
      clear HA0
      unfold EvN.val EvN.cells at *
      dsimp only at *
      obtain ⟨nm, hnm⟩ : ∃ nm, nameN 13 = nm := ⟨_, rfl⟩
      have HNM := Lib.hid (fun z => sname_any 13 z)
      rw [hnm] at HV HBD HTT HNM
      clear hnm
      go_enter Tryd.func44, Tryd.ntmps44
      go_wp2_with fail
      change Calls _ _ _ (w.alloc (.cells #[.int .i64 13, .string p, .string q, .int .i64 k, .int .i64 m, .int .u32 (t : Nat), .string D, .int .i64 n, v] 44)) _
      generalize w.alloc (.cells #[.int .i64 13, .string p, .string q, .int .i64 k, .int .i64 m, .int .u32 (t : Nat), .string D, .int .i64 n, v] 44) = w0 at *
      obtain ⟨q0, hq0⟩ : ∃ q0, w.heap.size = q0 := ⟨_, rfl⟩
      rw [hq0] at HB0 ⊢
      clear hq0
      refine (HR.out _ HU0.out).mono ?_
      rintro e w1 ⟨rfl, hu1⟩
      have HB1 := Lib.hid (HB0.out.upd hu1 (by simp))
      have HU1 := Lib.hid (HU0.out.then hu1)
      clear hu1 HB0 HU0 HR
      have c0 := HB1.out.cell 0 rfl
      go_wp2_with fail
      refine (HNM.out _).mono ?_
      rintro e w2 ⟨rfl, hw2⟩
      subst hw2
      go_upto_region 4 with fail
      have HG : Hid (Blk ((w2.alloc (.cells #[.string (strOf nm)] 9)).alloc (.cells #[(.slice (some ⟨w2.heap.size, 0, none⟩) 1 1)] 40)) w2.heap.size [.string (strOf nm)] 9) := Lib.hid ((Blk.new w2 [.string (strOf nm)] 9).alloc _)
      have HA : Hid (Blk ((w2.alloc (.cells #[.string (strOf nm)] 9)).alloc (.cells #[(.slice (some ⟨w2.heap.size, 0, none⟩) 1 1)] 40)) (w2.heap.size + 1) [(.slice (some ⟨w2.heap.size, 0, none⟩) 1 1)] 40) := Lib.hid (by
        have h := Blk.new (w2.alloc (.cells #[.string (strOf nm)] 9)) [(.slice (some ⟨w2.heap.size, 0, none⟩) 1 1)] 40
        simpa using h)
      have HRW : Hid (Row ((w2.alloc (.cells #[.string (strOf nm)] 9)).alloc (.cells #[(.slice (some ⟨w2.heap.size, 0, none⟩) 1 1)] 40)) 9 1 (.slice (some ⟨w2.heap.size, 0, none⟩) 1 1) 1 (strsV [nm])) := Lib.hid ((Row.new w2 [.string (strOf nm)] 9 1 1 (by unfold maxLen; omega) rfl).alloc _)
      have HBQ := Lib.hid ((HB1.out.alloc (.cells #[.string (strOf nm)] 9)).alloc (.cells #[(.slice (some ⟨w2.heap.size, 0, none⟩) 1 1)] 40))
      have HUQ := Lib.hid ((HU1.out.alloc (.cells #[.string (strOf nm)] 9)).alloc (.cells #[(.slice (some ⟨w2.heap.size, 0, none⟩) 1 1)] 40))
      have HLE : Hid (w.heap.size ≤ w2.heap.size + 1) := Lib.hid (by have := HU1.out.size; omega)
      have HLG : Hid (w.heap.size ≤ w2.heap.size) := Lib.hid HU1.out.size
      have HQ2 : Hid (q0 < w2.heap.size) := Lib.hid HB1.out.lt
      change Code.wp _ _ _ _ ((w2.alloc (.cells #[.string (strOf nm)] 9)).alloc (.cells #[(.slice (some ⟨w2.heap.size, 0, none⟩) 1 1)] 40))
      generalize ((w2.alloc (.cells #[.string (strOf nm)] 9)).alloc (.cells #[(.slice (some ⟨w2.heap.size, 0, none⟩) 1 1)] 40)) = w4 at *
      clear HB1 HU1 c0
      have HQA : Hid (q0 ≠ w2.heap.size + 1 ∧ q0 ≠ w2.heap.size) := Lib.hid (by have := HQ2.out; omega)
      generalize w2.heap.size + 1 = a at *
      generalize w2.heap.size = g at *
      clear hDN
      have c0 := HBQ.out.cell 0 rfl
      have c1 := HBQ.out.cell 1 rfl
      have c2 := HBQ.out.cell 2 rfl
      have c3 := HBQ.out.cell 3 rfl
      have c4 := HBQ.out.cell 4 rfl
      have c5 := HBQ.out.cell 5 rfl
      have c6 := HBQ.out.cell 6 rfl
      have c7 := HBQ.out.cell 7 rfl
      have c8 := HBQ.out.cell 8 rfl
      go_wp2_with fail
      refine (HDN.out _).mono ?_
      rintro e w5 ⟨rfl, hu5⟩
      have HBQ := Lib.hid (HBQ.out.upd hu5 (by simp))
      have HA := Lib.hid (HA.out.upd hu5 (by simp))
      have HRW := Lib.hid (HRW.out.upd hu5 (by simp))
      have HUQ := Lib.hid (HUQ.out.then hu5)
      clear hu5
      clear c0 c1 c2 c3 c4 c5 c6 c7 c8
      have HBX := Lib.hid (HBQ.out.alloc (.cells #[.string (strOf DN)] 9))
      have HAX := Lib.hid (HA.out.alloc (.cells #[.string (strOf DN)] 9))
      have HRX := Lib.hid (HRW.out.alloc (.cells #[.string (strOf DN)] 9))
      have HUX := Lib.hid (HUQ.out.alloc (.cells #[.string (strOf DN)] 9))
      have HNX : Hid (Blk (w5.alloc (.cells #[.string (strOf DN)] 9)) w5.heap.size (strsV [DN]) 9) := Lib.hid (Blk.new w5 [.string (strOf DN)] 9)
      go_wp2_with fail
      refine (line1_any a w5.heap.size (.slice (some ⟨g, 0, none⟩) 1 1) [nm] [DN] _ HAX.out HRX.out HNX.out (by have := HTT.out.2; simp at this ⊢ <;> omega)).mono ?_
      rintro e w6 ⟨rfl, v6, hB6, hR6, hU6, _⟩
      have HU6 := Lib.hid (HUX.out.trans hU6 (fun k hk => by
        simp [Value.ownBlock] at hk
        rcases hk with rfl | rfl
        · exact .inr HLE.out
        · exact .inr HLG.out))
      have HB6 := Lib.hid hB6
      have HT6 : Hid (TextsAt w6 v6 (nm :: [DN])) := Lib.hid (Row.textsAt (ps := nm :: [DN]) (by simpa using hR6))
      clear hB6 hR6 hU6
      have d0 := HB6.out.cell 0 rfl
      go_wp2_with fail
      refine (joinC_any (nm :: [DN]) 9 v6 _ HT6.out (fun p hp => (HBD.out p hp).2) (by have := HTT.out.2; omega) (by have := HTT.out.1; omega)).mono ?_
      rintro e w7 ⟨rfl, hu7⟩
      have HU7 := Lib.hid (HU6.out.then hu7)
      clear hu7
      go_wp2
      go_ret
      exact ⟨by rw [HV.out]; rfl, HU7.out⟩
    · have hn5 : l.length ≤ 50 ∧ ∀ x ∈ l, 0 ≤ x ∧ x ≤ 1000 := by have := HMA.out; unfold mayE at this; simpa using this
      have HLN := Lib.hid (fun z (hz : Upd [] w z) => slist_any l v z (HVL.out.upd hz) (fun x hx => by have := hn5.2 x hx; omega) (by have := hn5.1; omega))
      clear hn5
      obtain ⟨LN, hLN⟩ : ∃ LN, listP l = LN := ⟨_, rfl⟩
      rw [hLN] at HLN
      obtain ⟨va, vn, vc, rfl⟩ := HVL.out.form
      have HA0 : Hid (argsE ⟨14, p, q, k, m, t, D, n, .slice va vn vc, l⟩ = [LN]) := Lib.hid (by unfold argsE; rw [← hLN]; rfl)
      rw [HA0.out] at HV HBD HTT
      clear HA0
      unfold EvN.val EvN.cells at *
      dsimp only at *
      obtain ⟨nm, hnm⟩ : ∃ nm, nameN 14 = nm := ⟨_, rfl⟩
      have HNM := Lib.hid (fun z => sname_any 14 z)
      rw [hnm] at HV HBD HTT HNM
      clear hnm
      go_enter Tryd.func44, Tryd.ntmps44
      go_wp2_with fail
      change Calls _ _ _ (w.alloc (.cells #[.int .i64 14, .string p, .string q, .int .i64 k, .int .i64 m, .int .u32 (t : Nat), .string D, .int .i64 n, .slice va vn vc] 44)) _
      generalize w.alloc (.cells #[.int .i64 14, .string p, .string q, .int .i64 k, .int .i64 m, .int .u32 (t : Nat), .string D, .int .i64 n, .slice va vn vc] 44) = w0 at *
      obtain ⟨q0, hq0⟩ : ∃ q0, w.heap.size = q0 := ⟨_, rfl⟩
      rw [hq0] at HB0 ⊢
      clear hq0
      refine (HR.out _ HU0.out).mono ?_
      rintro e w1 ⟨rfl, hu1⟩
      have HB1 := Lib.hid (HB0.out.upd hu1 (by simp))
      have HU1 := Lib.hid (HU0.out.then hu1)
      clear hu1 HB0 HU0 HR
      have c0 := HB1.out.cell 0 rfl
      go_wp2_with fail
      refine (HNM.out _).mono ?_
      rintro e w2 ⟨rfl, hw2⟩
      subst hw2
      go_upto_region 4 with fail
      have HG : Hid (Blk ((w2.alloc (.cells #[.string (strOf nm)] 9)).alloc (.cells #[(.slice (some ⟨w2.heap.size, 0, none⟩) 1 1)] 40)) w2.heap.size [.string (strOf nm)] 9) := Lib.hid ((Blk.new w2 [.string (strOf nm)] 9).alloc _)
      have HA : Hid (Blk ((w2.alloc (.cells #[.string (strOf nm)] 9)).alloc (.cells #[(.slice (some ⟨w2.heap.size, 0, none⟩) 1 1)] 40)) (w2.heap.size + 1) [(.slice (some ⟨w2.heap.size, 0, none⟩) 1 1)] 40) := Lib.hid (by
        have h := Blk.new (w2.alloc (.cells #[.string (strOf nm)] 9)) [(.slice (some ⟨w2.heap.size, 0, none⟩) 1 1)] 40
        simpa using h)
      have HRW : Hid (Row ((w2.alloc (.cells #[.string (strOf nm)] 9)).alloc (.cells #[(.slice (some ⟨w2.heap.size, 0, none⟩) 1 1)] 40)) 9 1 (.slice (some ⟨w2.heap.size, 0, none⟩) 1 1) 1 (strsV [nm])) := Lib.hid ((Row.new w2 [.string (strOf nm)] 9 1 1 (by unfold maxLen; omega) rfl).alloc _)
      have HBQ := Lib.hid ((HB1.out.alloc (.cells #[.string (strOf nm)] 9)).alloc (.cells #[(.slice (some ⟨w2.heap.size, 0, none⟩) 1 1)] 40))
      have HUQ := Lib.hid ((HU1.out.alloc (.cells #[.string (strOf nm)] 9)).alloc (.cells #[(.slice (some ⟨w2.heap.size, 0, none⟩) 1 1)] 40))
      have HLE : Hid (w.heap.size ≤ w2.heap.size + 1) := Lib.hid (by have := HU1.out.size; omega)
      have HLG : Hid (w.heap.size ≤ w2.heap.size) := Lib.hid HU1.out.size
      have HQ2 : Hid (q0 < w2.heap.size) := Lib.hid HB1.out.lt
      change Code.wp _ _ _ _ ((w2.alloc (.cells #[.string (strOf nm)] 9)).alloc (.cells #[(.slice (some ⟨w2.heap.size, 0, none⟩) 1 1)] 40))
      generalize ((w2.alloc (.cells #[.string (strOf nm)] 9)).alloc (.cells #[(.slice (some ⟨w2.heap.size, 0, none⟩) 1 1)] 40)) = w4 at *
      clear HB1 HU1 c0
      have HQA : Hid (q0 ≠ w2.heap.size + 1 ∧ q0 ≠ w2.heap.size) := Lib.hid (by have := HQ2.out; omega)
      generalize w2.heap.size + 1 = a at *
      generalize w2.heap.size = g at *
      clear hLN
      have c0 := HBQ.out.cell 0 rfl
      have c1 := HBQ.out.cell 1 rfl
      have c2 := HBQ.out.cell 2 rfl
      have c3 := HBQ.out.cell 3 rfl
      have c4 := HBQ.out.cell 4 rfl
      have c5 := HBQ.out.cell 5 rfl
      have c6 := HBQ.out.cell 6 rfl
      have c7 := HBQ.out.cell 7 rfl
      have c8 := HBQ.out.cell 8 rfl
      go_wp2_with fail
      refine (HLN.out _ HUQ.out).mono ?_
      rintro e w5 ⟨rfl, hu5⟩
      have HBQ := Lib.hid (HBQ.out.upd hu5 (by simp))
      have HA := Lib.hid (HA.out.upd hu5 (by simp))
      have HRW := Lib.hid (HRW.out.upd hu5 (by simp))
      have HUQ := Lib.hid (HUQ.out.then hu5)
      clear hu5
      clear c0 c1 c2 c3 c4 c5 c6 c7 c8
      have HBX := Lib.hid (HBQ.out.alloc (.cells #[.string (strOf LN)] 9))
      have HAX := Lib.hid (HA.out.alloc (.cells #[.string (strOf LN)] 9))
      have HRX := Lib.hid (HRW.out.alloc (.cells #[.string (strOf LN)] 9))
      have HUX := Lib.hid (HUQ.out.alloc (.cells #[.string (strOf LN)] 9))
      have HNX : Hid (Blk (w5.alloc (.cells #[.string (strOf LN)] 9)) w5.heap.size (strsV [LN]) 9) := Lib.hid (Blk.new w5 [.string (strOf LN)] 9)
      go_wp2_with fail
      refine (line1_any a w5.heap.size (.slice (some ⟨g, 0, none⟩) 1 1) [nm] [LN] _ HAX.out HRX.out HNX.out (by have := HTT.out.2; simp at this ⊢ <;> omega)).mono ?_
      rintro e w6 ⟨rfl, v6, hB6, hR6, hU6, _⟩
      have HU6 := Lib.hid (HUX.out.trans hU6 (fun k hk => by
        simp [Value.ownBlock] at hk
        rcases hk with rfl | rfl
        · exact .inr HLE.out
        · exact .inr HLG.out))
      have HB6 := Lib.hid hB6
      have HT6 : Hid (TextsAt w6 v6 (nm :: [LN])) := Lib.hid (Row.textsAt (ps := nm :: [LN]) (by simpa using hR6))
      clear hB6 hR6 hU6
      have d0 := HB6.out.cell 0 rfl
      go_wp2_with fail
      refine (joinC_any (nm :: [LN]) 9 v6 _ HT6.out (fun p hp => (HBD.out p hp).2) (by have := HTT.out.2; omega) (by have := HTT.out.1; omega)).mono ?_
      rintro e w7 ⟨rfl, hu7⟩
      have HU7 := Lib.hid (HU6.out.then hu7)
      clear hu7
      go_wp2
      go_ret
      exact ⟨by rw [HV.out]; rfl, HU7.out⟩
    · have e1 : (op == 1) = false := by simpa using h1
      have e4 : (op == 4) = false := by simpa using h4
      have e2 : (op == 2) = false := by simpa using h2
      have e3 : (op == 3) = false := by simpa using h3
      have e5 : (op == 5) = false := by simpa using h5
      have e11 : (op == 11) = false := by simpa using h11
      have e12 : (op == 12) = false := by simpa using h12
      have e13 : (op == 13) = false := by simpa using h13
      have e14 : (op == 14) = false := by simpa using h14
      have HA0 : Hid (argsE ⟨op, p, q, k, m, t, D, n, v, l⟩ = []) := Lib.hid (by unfold argsE; rw [if_neg (by dsimp only; omega), if_neg h2, if_neg h3, if_neg h5, if_neg (by dsimp only; omega), if_neg h14])
      rw [HA0.out] at HV HBD HTT
      clear HA0
      unfold EvN.val EvN.cells at *
      dsimp only at *
      obtain ⟨nm, hnm⟩ : ∃ nm, nameN op = nm := ⟨_, rfl⟩
      have HNM := Lib.hid (fun z => sname_any op z)
      rw [hnm] at HV HBD HTT HNM
      clear hnm
      go_enter Tryd.func44, Tryd.ntmps44
      go_wp2_with fail
      change Calls _ _ _ (w.alloc (.cells #[.int .i64 op, .string p, .string q, .int .i64 k, .int .i64 m, .int .u32 (t : Nat), .string D, .int .i64 n, v] 44)) _
      generalize w.alloc (.cells #[.int .i64 op, .string p, .string q, .int .i64 k, .int .i64 m, .int .u32 (t : Nat), .string D, .int .i64 n, v] 44) = w0 at *
      obtain ⟨q0, hq0⟩ : ∃ q0, w.heap.size = q0 := ⟨_, rfl⟩
      rw [hq0] at HB0 ⊢
      clear hq0
      refine (HR.out _ HU0.out).mono ?_
      rintro e w1 ⟨rfl, hu1⟩
      have HB1 := Lib.hid (HB0.out.upd hu1 (by simp))
      have HU1 := Lib.hid (HU0.out.then hu1)
      clear hu1 HB0 HU0 HR
      have c0 := HB1.out.cell 0 rfl
      go_wp2_with fail
      refine (HNM.out _).mono ?_
      rintro e w2 ⟨rfl, hw2⟩
      subst hw2
      go_upto_region 4 with fail
      have HG : Hid (Blk ((w2.alloc (.cells #[.string (strOf nm)] 9)).alloc (.cells #[(.slice (some ⟨w2.heap.size, 0, none⟩) 1 1)] 40)) w2.heap.size [.string (strOf nm)] 9) := Lib.hid ((Blk.new w2 [.string (strOf nm)] 9).alloc _)
      have HA : Hid (Blk ((w2.alloc (.cells #[.string (strOf nm)] 9)).alloc (.cells #[(.slice (some ⟨w2.heap.size, 0, none⟩) 1 1)] 40)) (w2.heap.size + 1) [(.slice (some ⟨w2.heap.size, 0, none⟩) 1 1)] 40) := Lib.hid (by
        have h := Blk.new (w2.alloc (.cells #[.string (strOf nm)] 9)) [(.slice (some ⟨w2.heap.size, 0, none⟩) 1 1)] 40
        simpa using h)
      have HRW : Hid (Row ((w2.alloc (.cells #[.string (strOf nm)] 9)).alloc (.cells #[(.slice (some ⟨w2.heap.size, 0, none⟩) 1 1)] 40)) 9 1 (.slice (some ⟨w2.heap.size, 0, none⟩) 1 1) 1 (strsV [nm])) := Lib.hid ((Row.new w2 [.string (strOf nm)] 9 1 1 (by unfold maxLen; omega) rfl).alloc _)
      have HBQ := Lib.hid ((HB1.out.alloc (.cells #[.string (strOf nm)] 9)).alloc (.cells #[(.slice (some ⟨w2.heap.size, 0, none⟩) 1 1)] 40))
      have HUQ := Lib.hid ((HU1.out.alloc (.cells #[.string (strOf nm)] 9)).alloc (.cells #[(.slice (some ⟨w2.heap.size, 0, none⟩) 1 1)] 40))
      have HLE : Hid (w.heap.size ≤ w2.heap.size + 1) := Lib.hid (by have := HU1.out.size; omega)
      have HLG : Hid (w.heap.size ≤ w2.heap.size) := Lib.hid HU1.out.size
      have HQ2 : Hid (q0 < w2.heap.size) := Lib.hid HB1.out.lt
      change Code.wp _ _ _ _ ((w2.alloc (.cells #[.string (strOf nm)] 9)).alloc (.cells #[(.slice (some ⟨w2.heap.size, 0, none⟩) 1 1)] 40))
      generalize ((w2.alloc (.cells #[.string (strOf nm)] 9)).alloc (.cells #[(.slice (some ⟨w2.heap.size, 0, none⟩) 1 1)] 40)) = w4 at *
      clear HB1 HU1 c0
      have HQA : Hid (q0 ≠ w2.heap.size + 1 ∧ q0 ≠ w2.heap.size) := Lib.hid (by have := HQ2.out; omega)
      generalize w2.heap.size + 1 = a at *
      generalize w2.heap.size = g at *
      have c0 := HBQ.out.cell 0 rfl
      have c1 := HBQ.out.cell 1 rfl
      have c2 := HBQ.out.cell 2 rfl
      have c3 := HBQ.out.cell 3 rfl
      have c4 := HBQ.out.cell 4 rfl
      have c5 := HBQ.out.cell 5 rfl
      have c6 := HBQ.out.cell 6 rfl
      have c7 := HBQ.out.cell 7 rfl
      have c8 := HBQ.out.cell 8 rfl
      have HB6 := HA
      have HT6 : Hid (TextsAt w4 (.slice (some ⟨g, 0, none⟩) 1 1) (nm :: [])) := Lib.hid (Row.textsAt (ps := [nm]) (by simpa using HRW.out))
      have HU6 := HUQ
      have d0 := HB6.out.cell 0 rfl
      go_wp2_with fail
      refine (joinC_any (nm :: []) 9 (.slice (some ⟨g, 0, none⟩) 1 1) _ HT6.out (fun p hp => (HBD.out p hp).2) (by have := HTT.out.2; omega) (by have := HTT.out.1; omega)).mono ?_
      rintro e w7 ⟨rfl, hu7⟩
      have HU7 := Lib.hid (HU6.out.then hu7)
      clear hu7
      go_wp2
      go_ret
      exact ⟨by rw [HV.out]; rfl, HU7.out⟩
end Go.Proofs.YtigjingielnaoaaDoor
