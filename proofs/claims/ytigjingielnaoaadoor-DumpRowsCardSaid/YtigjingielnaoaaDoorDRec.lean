/- Package dump: Record: its walk. -/
import Derived.Test.YtigjingielnaoaaDoorDrP
import Derived.Test.YtigjingielnaoaaDoorQAT
namespace Go.Proofs.YtigjingielnaoaaDoor
set_option linter.unusedVariables false
set_option linter.unusedSimpArgs false
set_option linter.unusedSectionVars false
open Go.RowKit
set_option linter.unusedVariables false
set_option linter.unusedSimpArgs false

theorem results_rc {fn : Func} {p t : Tmp} (h : fn.results = #[.cell p 24, .tmp t]) (tmps : Array Value) (w : World) (g : Nat) (r : RecD) (hp : tmps.getD p undef = .pointer (some ⟨g, 0, none⟩)) (hB : Blk w g r.cells 24) :
    (results fn tmps).run Tryd.prog w = .ok (.tuple #[r.v, tmps.getD t undef]) w := by
  have c0 := hB.cell 0 rfl
  have c1 := hB.cell 1 rfl
  have c2 := hB.cell 2 rfl
  have c3 := hB.cell 3 rfl
  have c4 := hB.cell 4 rfl
  have c5 := hB.cell 5 rfl
  have c6 := hB.cell 6 rfl
  have c7 := hB.cell 7 rfl
  have c8 := hB.cell 8 rfl
  have hp' : tmps[p]?.getD undef = .pointer (some ⟨g, 0, none⟩) := by simpa using hp
  simp [results, h, go_sem, hp', c0, c1, c2, c3, c4, c5, c6, c7, c8, RecD.v]
theorem getD_atR (l : List (List Nat)) (i : Nat) (h : i < l.length) : l.getD i [] = l[i] := by
  rw [List.getD_eq_getElem?_getD, List.getElem?_eq_getElem h, Option.getD_some]
theorem rowP_lt (r : RecD) : ∀ x ∈ rowP r, x < 256 := by
  intro x hx
  unfold rowP at hx
  split at hx
  · cases hx
  · rename_i h
    have h0 : recErr r = 0 := by omega
    obtain ⟨_, hl, _, _, _⟩ := recErr_zero h0
    obtain ⟨b1, b2, b3, b4⟩ := laidB_bd hl
    exact joinC_lt 32 (by decide) _ (rowW_lt r b4.2 (by omega) b2.2 b3.2) x hx
set_option maxRecDepth 100000 in
set_option maxHeartbeats 12800000 in
theorem drec_any (S : ByteArray) (w : World) (hs : S.size ≤ 900) :
    Calls Tryd.prog 8 #[.string S] w fun e w' => e = .returned (.tuple #[(rowR (bytesOf S)).v, .bool (rowOk (bytesOf S))]) ∧ Upd [] w w' := by
  have HSP := Lib.hid (fun w => splitN_any S 32 w (by omega))
  have HEQ := Lib.hid (fun p : List Nat => fun hp => strOf_eqS p S hp)
  have HPP : Hid (∀ p ∈ splitNC 32 8 (bytesOf S), p.length ≤ S.size ∧ ∀ x ∈ p, x < 256) := Lib.hid (fun p hp => ⟨by rw [← length_bytesOf]; exact (splitNC_mem 32 8 (bytesOf S) p hp).1, fun x hx => bytesOf_lt S x ((splitNC_mem 32 8 (bytesOf S) p hp).2 x hx)⟩)
  have HE32 : Hid (splitNC (32 : UInt8).toNat 8 (bytesOf S) = splitNC 32 8 (bytesOf S)) := Lib.hid rfl
  rw [HE32.out] at HSP
  have hpl := splitNC_len 32 8 (bytesOf S)
  obtain ⟨l, hl⟩ : ∃ l, bytesOf S = l := ⟨_, rfl⟩
  rw [hl] at HSP HEQ HPP hpl
  rw [hl]
  have HB0 := Lib.hid (Blk.new w [.string ⟨#[]⟩, .int .i64 0, .int .u32 0, .int .i64 0, .int .i64 0, .int .i64 0, .int .i64 0, .int .u32 0, .int .i64 0] 24)
  have HU0 := Lib.hid ((Upd.refl [] w).alloc (.cells #[.string ⟨#[]⟩, .int .i64 0, .int .u32 0, .int .i64 0, .int .i64 0, .int .i64 0, .int .i64 0, .int .u32 0, .int .i64 0] 24))
  clear HE32 hl
  go_enter Tryd.func8, Tryd.ntmps8
  go_upto_region 1 with fail
  change Code.wp _ _ _ _ (w.alloc (.cells #[.string ⟨#[]⟩, .int .i64 0, .int .u32 0, .int .i64 0, .int .i64 0, .int .i64 0, .int .i64 0, .int .u32 0, .int .i64 0] 24))
  generalize w.alloc (.cells #[.string ⟨#[]⟩, .int .i64 0, .int .u32 0, .int .i64 0, .int .i64 0, .int .i64 0, .int .i64 0, .int .u32 0, .int .i64 0] 24) = w0 at *
  obtain ⟨q0, hq0⟩ : ∃ q0, w.heap.size = q0 := ⟨_, rfl⟩
  have HQ := Lib.hid (show w.heap.size ≤ q0 by omega)
  rw [hq0] at HB0 ⊢
  clear hq0
  go_wp2_with fail
  refine (HSP.out _).mono ?_
  rintro e w1 ⟨⟨v, rfl, hv, kb, hkb, hkl⟩, hu1⟩
  have HB1 := Lib.hid (HB0.out.upd hu1 (by simp))
  have HU1 := Lib.hid (HU0.out.then hu1)
  have HQK : Hid (q0 < kb) := Lib.hid (Nat.lt_of_lt_of_le HB0.out.lt hkl)
  obtain ⟨ad, cap, rfl, hcap, hc⟩ := hv
  clear hu1 HB0 HU0 HSP hkl
  have HC := Lib.hid hc
  obtain ⟨ps, hps⟩ : ∃ ps, splitNC 32 8 l = ps := ⟨_, rfl⟩
  have HPS := Lib.hid hps
  rw [hps] at HC HPP hpl
  rw [hps] at hcap hkb ⊢
  clear hps hc
  by_cases h9 : ps.length = 9
  · obtain ⟨g, o, had, d0⟩ := HC.out 0 (by omega)
    subst had
    have hgk : g = kb := by simpa [Value.ownBlock] using hkb
    have hgq : g ≠ q0 := fun e => by have := HQK.out; omega
    clear hgk hkb HQK
    have HGL : Hid (g < w1.heap.size) := Lib.hid (textCell_lt d0)
    have HG0 := Lib.hid d0
    clear d0
    obtain ⟨g', o', had, d1⟩ := HC.out 1 (by omega)
    cases had
    have HG1 := Lib.hid d1
    clear d1
    obtain ⟨g', o', had, d2⟩ := HC.out 2 (by omega)
    cases had
    have HG2 := Lib.hid d2
    clear d2
    obtain ⟨g', o', had, d3⟩ := HC.out 3 (by omega)
    cases had
    have HG3 := Lib.hid d3
    clear d3
    obtain ⟨g', o', had, d4⟩ := HC.out 4 (by omega)
    cases had
    have HG4 := Lib.hid d4
    clear d4
    obtain ⟨g', o', had, d5⟩ := HC.out 5 (by omega)
    cases had
    have HG5 := Lib.hid d5
    clear d5
    obtain ⟨g', o', had, d6⟩ := HC.out 6 (by omega)
    cases had
    have HG6 := Lib.hid d6
    clear d6
    obtain ⟨g', o', had, d7⟩ := HC.out 7 (by omega)
    cases had
    have HG7 := Lib.hid d7
    clear d7
    obtain ⟨g', o', had, d8⟩ := HC.out 8 (by omega)
    cases had
    have HG8 := Lib.hid d8
    clear d8
    obtain ⟨a0, ha0⟩ : ∃ a, ps[0] = a := ⟨_, rfl⟩
    rw [ha0] at HG0
    have b0 := HPP.out _ (List.getElem_mem (show 0 < ps.length by omega))
    rw [ha0] at b0
    have hp0 : (0 : Int) < (ps.length : Int) := by omega
    obtain ⟨a1, ha1⟩ : ∃ a, ps[1] = a := ⟨_, rfl⟩
    rw [ha1] at HG1
    have b1 := HPP.out _ (List.getElem_mem (show 1 < ps.length by omega))
    rw [ha1] at b1
    have hp1 : (1 : Int) < (ps.length : Int) := by omega
    obtain ⟨a2, ha2⟩ : ∃ a, ps[2] = a := ⟨_, rfl⟩
    rw [ha2] at HG2
    have b2 := HPP.out _ (List.getElem_mem (show 2 < ps.length by omega))
    rw [ha2] at b2
    have hp2 : (2 : Int) < (ps.length : Int) := by omega
    obtain ⟨a3, ha3⟩ : ∃ a, ps[3] = a := ⟨_, rfl⟩
    rw [ha3] at HG3
    have b3 := HPP.out _ (List.getElem_mem (show 3 < ps.length by omega))
    rw [ha3] at b3
    have hp3 : (3 : Int) < (ps.length : Int) := by omega
    obtain ⟨a4, ha4⟩ : ∃ a, ps[4] = a := ⟨_, rfl⟩
    rw [ha4] at HG4
    have b4 := HPP.out _ (List.getElem_mem (show 4 < ps.length by omega))
    rw [ha4] at b4
    have hp4 : (4 : Int) < (ps.length : Int) := by omega
    obtain ⟨a5, ha5⟩ : ∃ a, ps[5] = a := ⟨_, rfl⟩
    rw [ha5] at HG5
    have b5 := HPP.out _ (List.getElem_mem (show 5 < ps.length by omega))
    rw [ha5] at b5
    have hp5 : (5 : Int) < (ps.length : Int) := by omega
    obtain ⟨a6, ha6⟩ : ∃ a, ps[6] = a := ⟨_, rfl⟩
    rw [ha6] at HG6
    have b6 := HPP.out _ (List.getElem_mem (show 6 < ps.length by omega))
    rw [ha6] at b6
    have hp6 : (6 : Int) < (ps.length : Int) := by omega
    obtain ⟨a7, ha7⟩ : ∃ a, ps[7] = a := ⟨_, rfl⟩
    rw [ha7] at HG7
    have b7 := HPP.out _ (List.getElem_mem (show 7 < ps.length by omega))
    rw [ha7] at b7
    have hp7 : (7 : Int) < (ps.length : Int) := by omega
    obtain ⟨a8, ha8⟩ : ∃ a, ps[8] = a := ⟨_, rfl⟩
    rw [ha8] at HG8
    have b8 := HPP.out _ (List.getElem_mem (show 8 < ps.length by omega))
    rw [ha8] at b8
    have hp8 : (8 : Int) < (ps.length : Int) := by omega
    have z : ∀ l : List Nat, (strOf l).size = l.length := size_strOf
    have H0 : ∀ w, Calls Tryd.prog 27 #[.string (strOf a0), .int .i64 10] w fun e w' => e = .returned (.int .i64 (numB 10 a0 : Nat)) ∧ Upd [] w w' := fun w => by
      have h := dnumber_any (strOf a0) 10 w (by rw [z]; have := b0.1; omega) (by omega)
      rw [bytesOf_strOf _ b0.2] at h
      exact h
    have H0 := Lib.hid H0
    have H1 : ∀ w, Calls Tryd.prog 27 #[.string (strOf a1), .int .i64 10] w fun e w' => e = .returned (.int .i64 (numB 10 a1 : Nat)) ∧ Upd [] w w' := fun w => by
      have h := dnumber_any (strOf a1) 10 w (by rw [z]; have := b1.1; omega) (by omega)
      rw [bytesOf_strOf _ b1.2] at h
      exact h
    have H1 := Lib.hid H1
    have H2 : ∀ w, Calls Tryd.prog 27 #[.string (strOf a2), .int .i64 10] w fun e w' => e = .returned (.int .i64 (numB 10 a2 : Nat)) ∧ Upd [] w w' := fun w => by
      have h := dnumber_any (strOf a2) 10 w (by rw [z]; have := b2.1; omega) (by omega)
      rw [bytesOf_strOf _ b2.2] at h
      exact h
    have H2 := Lib.hid H2
    have H3 : ∀ w, Calls Tryd.prog 27 #[.string (strOf a3), .int .i64 10] w fun e w' => e = .returned (.int .i64 (numB 10 a3 : Nat)) ∧ Upd [] w w' := fun w => by
      have h := dnumber_any (strOf a3) 10 w (by rw [z]; have := b3.1; omega) (by omega)
      rw [bytesOf_strOf _ b3.2] at h
      exact h
    have H3 := Lib.hid H3
    have H4 : ∀ w, Calls Tryd.prog 27 #[.string (strOf a4), .int .i64 16] w fun e w' => e = .returned (.int .i64 (numB 16 a4 : Nat)) ∧ Upd [] w w' := fun w => by
      have h := dnumber_any (strOf a4) 16 w (by rw [z]; have := b4.1; omega) (by omega)
      rw [bytesOf_strOf _ b4.2] at h
      exact h
    have H4 := Lib.hid H4
    have HM := mode14_any (strOf a5)
    rw [bytesOf_strOf _ b5.2] at HM
    have HM := Lib.hid (fun w => HM w (by rw [z]; have := b5.1; omega))
    unfold modeV at HM
    have q67 : bytesOf (strOf (a6 ++ [32] ++ a7)) = a6 ++ [32] ++ a7 := bytesOf_strOf _ (by
      intro x h
      simp only [List.mem_append, List.mem_singleton] at h
      rcases h with (h | h) | h
      · exact b6.2 x h
      · omega
      · exact b7.2 x h)
    have HP := dosParse_any (strOf (a6 ++ [32] ++ a7))
    rw [q67] at HP
    have HP := Lib.hid (fun w => HP w (by rw [z]; have := b6.1; have := b7.1; simp; omega))
    unfold dosParseV at HP
    have HA1 : Hid (∀ w, (Op.stringOp .add (strOf a6) ({ data := #[32] } : ByteArray)).run Tryd.prog w = .ok (.string (strOf (a6 ++ [32]))) w) := Lib.hid (fun w => by
      have e : ({ data := #[32] } : ByteArray) = strOf [32] := rfl
      rw [e, run_string_add_sum _ _ _ (by rw [z, z]; have := b6.1; simp; omega), ← strOf_cat])
    have HA2 : Hid (∀ w, (Op.stringOp .add (strOf (a6 ++ [32])) (strOf a7)).run Tryd.prog w = .ok (.string (strOf (a6 ++ [32] ++ a7))) w) := Lib.hid (fun w => by
      rw [run_string_add_sum _ _ _ (by rw [z, z]; have := b6.1; have := b7.1; simp; omega), ← strOf_cat])
    have HPA := path_any (strOf a8)
    rw [bytesOf_strOf _ b8.2] at HPA
    have HPA := Lib.hid (fun w => HPA w (by rw [z]; have := b8.1; omega))
    unfold pathV at HPA
    have hw4 : IntKind.u32.wrap ((numB 16 a4 : Nat) : Int) = ((numB 16 a4 % 4294967296 : Nat) : Int) := by rw [IntKind.wrap_u32]; omega
    have HFIT : Hid ((recW ps).Fits) := Lib.hid ⟨by
      show (strOf (pathP (ps.getD 8 [])).1).size ≤ 1000
      rw [z, getD_atR ps 8 (by omega), ha8]
      have := pathP_len a8
      have := b8.1
      omega, (recW_bd ps).1, (recW_bd ps).2⟩
    have HPRE : Hid (recW ps = ⟨strOf (pathP a8).1, (numB 10 a1 : Nat), numB 16 a4 % 4294967296, (numB 10 a2 : Nat), (numB 10 a3 : Nat), ((pathP a8).2.1 : Nat), ((modeP a5).1 : Nat), (dosParseP (a6 ++ [32] ++ a7)).1, (numB 10 a0 : Nat)⟩) := Lib.hid (by
      unfold recW
      rw [getD_atR ps 0 (by omega), getD_atR ps 1 (by omega), getD_atR ps 2 (by omega), getD_atR ps 3 (by omega), getD_atR ps 4 (by omega), getD_atR ps 5 (by omega), getD_atR ps 6 (by omega), getD_atR ps 7 (by omega), getD_atR ps 8 (by omega), ha0, ha1, ha2, ha3, ha4, ha5, ha6, ha7, ha8])
    obtain ⟨R, hR⟩ : ∃ R, recW ps = R := ⟨_, rfl⟩
    have HOK : Hid (rowOk l = decide (rowP R = l) ∧ (rowOk l = true → rowR l = R)) := Lib.hid ⟨by
      unfold rowOk
      rw [HPS.out, hR]
      by_cases h : rowP R = l
      · rw [decide_eq_true h]; exact decide_eq_true ⟨h9, h⟩
      · rw [decide_eq_false h]; exact decide_eq_false (fun h' => h h'.2), fun h => by unfold rowR; rw [if_pos h, HPS.out, hR]⟩
    rw [hR] at HFIT HPRE
    have HDR := Lib.hid (fun w => drow_any R w HFIT.out)
    have heq := HEQ.out _ (rowP_lt R)
    rw [HPRE.out] at HDR
    unfold RecD.v at HDR
    dsimp only at HDR
    generalize hsm : numB 16 a4 % 4294967296 = sm at *
    generalize numB 10 a0 = n0 at *
    generalize numB 10 a1 = n1 at *
    generalize numB 10 a2 = n2 at *
    generalize numB 10 a3 = n3 at *
    generalize numB 16 a4 = n4 at *
    generalize (modeP a5).1 = md at *
    generalize (modeP a5).2 = mb at *
    generalize (dosParseP (a6 ++ [32] ++ a7)).1 = tt at *
    generalize (dosParseP (a6 ++ [32] ++ a7)).2 = tb at *
    generalize (pathP a8).2.1 = kk at *
    generalize (pathP a8).2.2 = kc at *
    generalize strOf (pathP a8).1 = PP at *
    generalize strOf (a6 ++ [32] ++ a7) = S67 at *
    generalize strOf (a6 ++ [32]) = S6b at *
    generalize strOf a0 = S0 at *
    generalize strOf a1 = S1 at *
    generalize strOf a2 = S2 at *
    generalize strOf a3 = S3 at *
    generalize strOf a4 = S4 at *
    generalize strOf a5 = S5 at *
    generalize strOf a6 = S6 at *
    generalize strOf a7 = S7 at *
    generalize strOf a8 = S8 at *
    clear ha0 b0 ha1 b1 ha2 b2 ha3 b3 ha4 b4 ha5 b5 ha6 b6 ha7 b7 ha8 b8 z q67 hsm hR HFIT HC HPS HPP hpl
    have hn9 : ¬ (ps.length : Int) < 9 := by omega
    have hp0n : 0 < ps.length := by omega
    clear h9
    clear HEQ
    go_upto_region 4 with fail
    have HB2 := HB1
    have HU2 := HU1
    clear HB1 HU1
    have HUq := Lib.hid (Upd.refl [q0] w1)
    refine wp_region_held_drew (S := fun w' => ∃ x1 x3 x4 x8, Blk w' q0 [.string ⟨#[]⟩, x1, .int .u32 0, x3, x4, .int .i64 0, .int .i64 0, .int .u32 0, x8] 24 ∧ Upd [] w w' ∧ Upd [q0] w1 w') (by kernel_rfl) ⟨_, _, _, _, HB2.out, HU2.out.drew, HUq.out.drew⟩ (fun hHeld => ?_)
    change wpAnyH _ _ _ _ _ 24 #[false, false, false, false, false, false, false, false, false, false, false, false, false, false, false, false, false, false, false, false, false, false, false, false] _ _
    refine heldTake (i := 0) (d := some 11) (v := ?v0_1) rfl rfl (by kernel_rfl) (by kernel_rfl) (by kernel_rfl) (fun _ _ _ h => h) (by rfl) ?hy0_1 (by assumption) ?r0_1
    case hy0_1 => (intro w hSw; (try dsimp only at hSw); go_simp; try with_reducible rfl)
    try simp only [Act.put, List.setIfInBounds_toArray, List.set_cons_zero, List.set_cons_succ]
    change wpAnyH _ _ _ _ _ 23 #[true, false, false, false, false, false, false, false, false, false, false, false, false, false, false, false, false, false, false, false, false, false, false, false] _ _
    refine heldTake (i := 1) (d := some 12) (v := ?v1_2) rfl rfl (by kernel_rfl) (by kernel_rfl) (by kernel_rfl) (fun _ _ _ h => h) (by rfl) ?hy1_2 (by assumption) ?r1_2
    case hy1_2 => (intro w hSw; (try dsimp only at hSw); go_simp; try with_reducible rfl)
    try simp only [Act.put, List.setIfInBounds_toArray, List.set_cons_zero, List.set_cons_succ]
    change wpAnyH _ _ _ _ _ 22 #[true, true, false, false, false, false, false, false, false, false, false, false, false, false, false, false, false, false, false, false, false, false, false, false] _ _
    refine heldTake (i := 2) (d := some 13) (v := ?v2_3) rfl rfl (by kernel_rfl) (by kernel_rfl) (by kernel_rfl) (fun _ _ _ h => h) (by rfl) ?hy2_3 (by assumption) ?r2_3
    case hy2_3 => (intro w5 hSw; obtain ⟨x1, x3, x4, x8, hB5, hU5, hV5⟩ := hSw; have d5 : _ = some (Value.string S0) := (hV5.at HGL.out (by simp; exact hgq) (o + 0)).trans HG0.out; rw [Nat.add_zero] at d5; go_simp; try with_reducible rfl)
    try simp only [Act.put, List.setIfInBounds_toArray, List.set_cons_zero, List.set_cons_succ]
    change wpAnyH _ _ _ _ _ 21 #[true, true, true, false, false, false, false, false, false, false, false, false, false, false, false, false, false, false, false, false, false, false, false, false] _ _
    refine heldTake (i := 4) (d := some 15) (v := ?v4_4) rfl rfl (by kernel_rfl) (by kernel_rfl) (by kernel_rfl) (fun _ _ _ h => h) (by rfl) ?hy4_4 (by assumption) ?r4_4
    case hy4_4 => (intro w hSw; (try dsimp only at hSw); go_simp; try with_reducible rfl)
    try simp only [Act.put, List.setIfInBounds_toArray, List.set_cons_zero, List.set_cons_succ]
    change wpAnyH _ _ _ _ _ 20 #[true, true, true, false, true, false, false, false, false, false, false, false, false, false, false, false, false, false, false, false, false, false, false, false] _ _
    refine heldTake (i := 5) (d := some 16) (v := ?v5_5) rfl rfl (by kernel_rfl) (by kernel_rfl) (by kernel_rfl) (fun _ _ _ h => h) (by rfl) ?hy5_5 (by assumption) ?r5_5
    case hy5_5 => (intro w hSw; (try dsimp only at hSw); go_simp; try with_reducible rfl)
    try simp only [Act.put, List.setIfInBounds_toArray, List.set_cons_zero, List.set_cons_succ]
    change wpAnyH _ _ _ _ _ 19 #[true, true, true, false, true, true, false, false, false, false, false, false, false, false, false, false, false, false, false, false, false, false, false, false] _ _
    refine heldTake (i := 6) (d := some 17) (v := ?v6_6) rfl rfl (by kernel_rfl) (by kernel_rfl) (by kernel_rfl) (fun _ _ _ h => h) (by rfl) ?hy6_6 (by assumption) ?r6_6
    case hy6_6 => (intro w5 hSw; obtain ⟨x1, x3, x4, x8, hB5, hU5, hV5⟩ := hSw; have d5 : _ = some (Value.string S1) := (hV5.at HGL.out (by simp; exact hgq) (o + 1)).trans HG1.out; go_simp; try with_reducible rfl)
    try simp only [Act.put, List.setIfInBounds_toArray, List.set_cons_zero, List.set_cons_succ]
    change wpAnyH _ _ _ _ _ 18 #[true, true, true, false, true, true, true, false, false, false, false, false, false, false, false, false, false, false, false, false, false, false, false, false] _ _
    refine heldTake (i := 8) (d := some 19) (v := ?v8_7) rfl rfl (by kernel_rfl) (by kernel_rfl) (by kernel_rfl) (fun _ _ _ h => h) (by rfl) ?hy8_7 (by assumption) ?r8_7
    case hy8_7 => (intro w hSw; (try dsimp only at hSw); go_simp; try with_reducible rfl)
    try simp only [Act.put, List.setIfInBounds_toArray, List.set_cons_zero, List.set_cons_succ]
    change wpAnyH _ _ _ _ _ 17 #[true, true, true, false, true, true, true, false, true, false, false, false, false, false, false, false, false, false, false, false, false, false, false, false] _ _
    refine heldTake (i := 9) (d := some 20) (v := ?v9_8) rfl rfl (by kernel_rfl) (by kernel_rfl) (by kernel_rfl) (fun _ _ _ h => h) (by rfl) ?hy9_8 (by assumption) ?r9_8
    case hy9_8 => (intro w hSw; (try dsimp only at hSw); go_simp; try with_reducible rfl)
    try simp only [Act.put, List.setIfInBounds_toArray, List.set_cons_zero, List.set_cons_succ]
    change wpAnyH _ _ _ _ _ 16 #[true, true, true, false, true, true, true, false, true, true, false, false, false, false, false, false, false, false, false, false, false, false, false, false] _ _
    refine heldTake (i := 10) (d := some 21) (v := ?v10_9) rfl rfl (by kernel_rfl) (by kernel_rfl) (by kernel_rfl) (fun _ _ _ h => h) (by rfl) ?hy10_9 (by assumption) ?r10_9
    case hy10_9 => (intro w5 hSw; obtain ⟨x1, x3, x4, x8, hB5, hU5, hV5⟩ := hSw; have d5 : _ = some (Value.string S2) := (hV5.at HGL.out (by simp; exact hgq) (o + 2)).trans HG2.out; go_simp; try with_reducible rfl)
    try simp only [Act.put, List.setIfInBounds_toArray, List.set_cons_zero, List.set_cons_succ]
    change wpAnyH _ _ _ _ _ 15 #[true, true, true, false, true, true, true, false, true, true, true, false, false, false, false, false, false, false, false, false, false, false, false, false] _ _
    refine heldTake (i := 12) (d := some 23) (v := ?v12_10) rfl rfl (by kernel_rfl) (by kernel_rfl) (by kernel_rfl) (fun _ _ _ h => h) (by rfl) ?hy12_10 (by assumption) ?r12_10
    case hy12_10 => (intro w hSw; (try dsimp only at hSw); go_simp; try with_reducible rfl)
    try simp only [Act.put, List.setIfInBounds_toArray, List.set_cons_zero, List.set_cons_succ]
    change wpAnyH _ _ _ _ _ 14 #[true, true, true, false, true, true, true, false, true, true, true, false, true, false, false, false, false, false, false, false, false, false, false, false] _ _
    refine heldTake (i := 13) (d := some 24) (v := ?v13_11) rfl rfl (by kernel_rfl) (by kernel_rfl) (by kernel_rfl) (fun _ _ _ h => h) (by rfl) ?hy13_11 (by assumption) ?r13_11
    case hy13_11 => (intro w hSw; (try dsimp only at hSw); go_simp; try with_reducible rfl)
    try simp only [Act.put, List.setIfInBounds_toArray, List.set_cons_zero, List.set_cons_succ]
    change wpAnyH _ _ _ _ _ 13 #[true, true, true, false, true, true, true, false, true, true, true, false, true, true, false, false, false, false, false, false, false, false, false, false] _ _
    refine heldTake (i := 14) (d := some 25) (v := ?v14_12) rfl rfl (by kernel_rfl) (by kernel_rfl) (by kernel_rfl) (fun _ _ _ h => h) (by rfl) ?hy14_12 (by assumption) ?r14_12
    case hy14_12 => (intro w5 hSw; obtain ⟨x1, x3, x4, x8, hB5, hU5, hV5⟩ := hSw; have d5 : _ = some (Value.string S3) := (hV5.at HGL.out (by simp; exact hgq) (o + 3)).trans HG3.out; go_simp; try with_reducible rfl)
    try simp only [Act.put, List.setIfInBounds_toArray, List.set_cons_zero, List.set_cons_succ]
    change wpAnyH _ _ _ _ _ 12 #[true, true, true, false, true, true, true, false, true, true, true, false, true, true, true, false, false, false, false, false, false, false, false, false] _ _
    refine wpAnyH_ready (rs := [3]) (by kernel_rfl) (by simp) ?_
    refine AllReadyH.cons rfl (fun K hK => ?_) AllReadyH.nil
    go_simp
    refine (H0.out _).mono ?_
    rintro e z9 ⟨rfl, hz9⟩
    obtain ⟨x1, x3, x4, x8, hB9, hU9, hV9⟩ := hHeld
    go_wp2
    refine hK.out _ _ ⟨x1, x3, x4, x8, hB9.upd hz9 (by simp), hU9.then hz9, hV9.then (hz9.mono (fun k hk => by simp at hk))⟩ (fun hHeld => ?_)
    clear hK K
    try simp only [Act.put, List.setIfInBounds_toArray, List.set_cons_zero, List.set_cons_succ]
    change wpAnyH _ _ _ _ _ 11 #[true, true, true, true, true, true, true, false, true, true, true, false, true, true, true, false, false, false, false, false, false, false, false, false] _ _
    refine heldTake (i := 16) (d := some 27) (v := ?v16_14) rfl rfl (by kernel_rfl) (by kernel_rfl) (by kernel_rfl) (fun _ _ _ h => h) (by rfl) ?hy16_14 (by assumption) ?r16_14
    case hy16_14 => (intro w hSw; (try dsimp only at hSw); go_simp; try with_reducible rfl)
    try simp only [Act.put, List.setIfInBounds_toArray, List.set_cons_zero, List.set_cons_succ]
    change wpAnyH _ _ _ _ _ 10 #[true, true, true, true, true, true, true, false, true, true, true, false, true, true, true, false, true, false, false, false, false, false, false, false] _ _
    refine wpAnyH_ready (rs := [7]) (by kernel_rfl) (by simp) ?_
    refine AllReadyH.cons rfl (fun K hK => ?_) AllReadyH.nil
    go_simp
    refine (H1.out _).mono ?_
    rintro e z9 ⟨rfl, hz9⟩
    obtain ⟨x1, x3, x4, x8, hB9, hU9, hV9⟩ := hHeld
    go_wp2
    refine hK.out _ _ ⟨x1, x3, x4, x8, hB9.upd hz9 (by simp), hU9.then hz9, hV9.then (hz9.mono (fun k hk => by simp at hk))⟩ (fun hHeld => ?_)
    clear hK K
    try simp only [Act.put, List.setIfInBounds_toArray, List.set_cons_zero, List.set_cons_succ]
    change wpAnyH _ _ _ _ _ 9 #[true, true, true, true, true, true, true, true, true, true, true, false, true, true, true, false, true, false, false, false, false, false, false, false] _ _
    refine wpAnyH_ready (rs := [11]) (by kernel_rfl) (by simp) ?_
    refine AllReadyH.cons rfl (fun K hK => ?_) AllReadyH.nil
    go_simp
    refine (H2.out _).mono ?_
    rintro e z9 ⟨rfl, hz9⟩
    obtain ⟨x1, x3, x4, x8, hB9, hU9, hV9⟩ := hHeld
    go_wp2
    refine hK.out _ _ ⟨x1, x3, x4, x8, hB9.upd hz9 (by simp), hU9.then hz9, hV9.then (hz9.mono (fun k hk => by simp at hk))⟩ (fun hHeld => ?_)
    clear hK K
    try simp only [Act.put, List.setIfInBounds_toArray, List.set_cons_zero, List.set_cons_succ]
    change wpAnyH _ _ _ _ _ 8 #[true, true, true, true, true, true, true, true, true, true, true, true, true, true, true, false, true, false, false, false, false, false, false, false] _ _
    refine wpAnyH_ready (rs := [15]) (by kernel_rfl) (by simp) ?_
    refine AllReadyH.cons rfl (fun K hK => ?_) AllReadyH.nil
    go_simp
    refine (H3.out _).mono ?_
    rintro e z9 ⟨rfl, hz9⟩
    obtain ⟨x1, x3, x4, x8, hB9, hU9, hV9⟩ := hHeld
    go_wp2
    refine hK.out _ _ ⟨x1, x3, x4, x8, hB9.upd hz9 (by simp), hU9.then hz9, hV9.then (hz9.mono (fun k hk => by simp at hk))⟩ (fun hHeld => ?_)
    clear hK K
    try simp only [Act.put, List.setIfInBounds_toArray, List.set_cons_zero, List.set_cons_succ]
    change wpAnyH _ _ _ _ _ 7 #[true, true, true, true, true, true, true, true, true, true, true, true, true, true, true, true, true, false, false, false, false, false, false, false] _ _
    refine wpAnyH_ready (rs := [17]) (by kernel_rfl) (by simp) ?_
    refine AllReadyH.cons rfl (fun K hK => ?_) AllReadyH.nil
    go_simp
    obtain ⟨x1, x3, x4, x8, hB9, hU9, hV9⟩ := hHeld
    have HB9 := Lib.hid hB9
    have HU9 := Lib.hid hU9
    have HV9 := Lib.hid hV9
    have c8 := HB9.out.cell 8 rfl
    have f8 := HB9.out.frz 8
    simp only [c8, f8, Bool.false_eq_true, ↓reduceIte]
    have HBo := HB9
    have HU9 := Lib.hid (Upd.setCell HU9.out (p := ⟨q0, 8, none⟩) (.inr HQ.out) (.int .i64 (n0 : Nat)))
    have HV9 := Lib.hid (Upd.setCell HV9.out (p := ⟨q0, 8, none⟩) (.inl (by simp)) (.int .i64 (n0 : Nat)))
    have HB9 := Lib.hid (HB9.out.set 8 (.int .i64 (n0 : Nat)))
    simp only [List.set_cons_zero, List.set_cons_succ] at HB9
    clear c8 f8
    go_wp2
    refine hK.out _ _ ⟨x1, x3, x4, (.int .i64 (n0 : Nat)), HB9.out, HU9.out, HV9.out⟩ (fun hHeld => ?_)
    clear hK K
    try simp only [Act.put, List.setIfInBounds_toArray, List.set_cons_zero, List.set_cons_succ]
    change wpAnyH _ _ _ _ _ 6 #[true, true, true, true, true, true, true, true, true, true, true, true, true, true, true, true, true, true, false, false, false, false, false, false] _ _
    refine heldTake (i := 18) (d := some 28) (v := ?v18_19) rfl rfl (by kernel_rfl) (by kernel_rfl) (by kernel_rfl) (fun _ _ _ h => h) (by rfl) ?hy18_19 (by assumption) ?r18_19
    case hy18_19 => (intro w hSw; (try dsimp only at hSw); go_simp; try with_reducible rfl)
    try simp only [Act.put, List.setIfInBounds_toArray, List.set_cons_zero, List.set_cons_succ]
    change wpAnyH _ _ _ _ _ 5 #[true, true, true, true, true, true, true, true, true, true, true, true, true, true, true, true, true, true, true, false, false, false, false, false] _ _
    refine wpAnyH_ready (rs := [19]) (by kernel_rfl) (by simp) ?_
    refine AllReadyH.cons rfl (fun K hK => ?_) AllReadyH.nil
    go_simp
    generalize z9.setCell ⟨q0, 8, none⟩ (.int .i64 (n0 : Nat)) = y1 at *
    have c1 := HBo.out.cell 1 rfl
    have f1 := HBo.out.frz 1
    simp only [c1, f1, Bool.false_eq_true, ↓reduceIte]
    have HBo := HB9
    have HU9 := Lib.hid (Upd.setCell HU9.out (p := ⟨q0, 1, none⟩) (.inr HQ.out) (.int .i64 (n1 : Nat)))
    have HV9 := Lib.hid (Upd.setCell HV9.out (p := ⟨q0, 1, none⟩) (.inl (by simp)) (.int .i64 (n1 : Nat)))
    have HB9 := Lib.hid (HB9.out.set 1 (.int .i64 (n1 : Nat)))
    simp only [List.set_cons_zero, List.set_cons_succ] at HB9
    clear c1 f1
    go_wp2
    refine hK.out _ _ ⟨(.int .i64 (n1 : Nat)), x3, x4, (.int .i64 (n0 : Nat)), HB9.out, HU9.out, HV9.out⟩ (fun hHeld => ?_)
    clear hK K
    try simp only [Act.put, List.setIfInBounds_toArray, List.set_cons_zero, List.set_cons_succ]
    change wpAnyH _ _ _ _ _ 4 #[true, true, true, true, true, true, true, true, true, true, true, true, true, true, true, true, true, true, true, true, false, false, false, false] _ _
    refine heldTake (i := 20) (d := some 29) (v := ?v20_21) rfl rfl (by kernel_rfl) (by kernel_rfl) (by kernel_rfl) (fun _ _ _ h => h) (by rfl) ?hy20_21 (by assumption) ?r20_21
    case hy20_21 => (intro w hSw; (try dsimp only at hSw); go_simp; try with_reducible rfl)
    try simp only [Act.put, List.setIfInBounds_toArray, List.set_cons_zero, List.set_cons_succ]
    change wpAnyH _ _ _ _ _ 3 #[true, true, true, true, true, true, true, true, true, true, true, true, true, true, true, true, true, true, true, true, true, false, false, false] _ _
    refine wpAnyH_ready (rs := [21]) (by kernel_rfl) (by simp) ?_
    refine AllReadyH.cons rfl (fun K hK => ?_) AllReadyH.nil
    go_simp
    generalize y1.setCell ⟨q0, 1, none⟩ (.int .i64 (n1 : Nat)) = y2 at *
    have c3 := HBo.out.cell 3 rfl
    have f3 := HBo.out.frz 3
    simp only [c3, f3, Bool.false_eq_true, ↓reduceIte]
    have HBo := HB9
    have HU9 := Lib.hid (Upd.setCell HU9.out (p := ⟨q0, 3, none⟩) (.inr HQ.out) (.int .i64 (n2 : Nat)))
    have HV9 := Lib.hid (Upd.setCell HV9.out (p := ⟨q0, 3, none⟩) (.inl (by simp)) (.int .i64 (n2 : Nat)))
    have HB9 := Lib.hid (HB9.out.set 3 (.int .i64 (n2 : Nat)))
    simp only [List.set_cons_zero, List.set_cons_succ] at HB9
    clear c3 f3
    go_wp2
    refine hK.out _ _ ⟨(.int .i64 (n1 : Nat)), (.int .i64 (n2 : Nat)), x4, (.int .i64 (n0 : Nat)), HB9.out, HU9.out, HV9.out⟩ (fun hHeld => ?_)
    clear hK K
    try simp only [Act.put, List.setIfInBounds_toArray, List.set_cons_zero, List.set_cons_succ]
    change wpAnyH _ _ _ _ _ 2 #[true, true, true, true, true, true, true, true, true, true, true, true, true, true, true, true, true, true, true, true, true, true, false, false] _ _
    refine heldTake (i := 22) (d := some 30) (v := ?v22_23) rfl rfl (by kernel_rfl) (by kernel_rfl) (by kernel_rfl) (fun _ _ _ h => h) (by rfl) ?hy22_23 (by assumption) ?r22_23
    case hy22_23 => (intro w hSw; (try dsimp only at hSw); go_simp; try with_reducible rfl)
    try simp only [Act.put, List.setIfInBounds_toArray, List.set_cons_zero, List.set_cons_succ]
    change wpAnyH _ _ _ _ _ 1 #[true, true, true, true, true, true, true, true, true, true, true, true, true, true, true, true, true, true, true, true, true, true, true, false] _ _
    refine wpAnyH_ready (rs := [23]) (by kernel_rfl) (by simp) ?_
    refine AllReadyH.cons rfl (fun K hK => ?_) AllReadyH.nil
    go_simp
    generalize y2.setCell ⟨q0, 3, none⟩ (.int .i64 (n2 : Nat)) = y3 at *
    have c4 := HBo.out.cell 4 rfl
    have f4 := HBo.out.frz 4
    simp only [c4, f4, Bool.false_eq_true, ↓reduceIte]
    have HBo := HB9
    have HU9 := Lib.hid (Upd.setCell HU9.out (p := ⟨q0, 4, none⟩) (.inr HQ.out) (.int .i64 (n3 : Nat)))
    have HV9 := Lib.hid (Upd.setCell HV9.out (p := ⟨q0, 4, none⟩) (.inl (by simp)) (.int .i64 (n3 : Nat)))
    have HB9 := Lib.hid (HB9.out.set 4 (.int .i64 (n3 : Nat)))
    simp only [List.set_cons_zero, List.set_cons_succ] at HB9
    clear c4 f4
    go_wp2
    refine hK.out _ _ ⟨(.int .i64 (n1 : Nat)), (.int .i64 (n2 : Nat)), (.int .i64 (n3 : Nat)), (.int .i64 (n0 : Nat)), HB9.out, HU9.out, HV9.out⟩ (fun hHeld => ?_)
    clear hK K
    try simp only [Act.put, List.setIfInBounds_toArray, List.set_cons_zero, List.set_cons_succ]
    change wpAnyH _ _ _ _ _ 0 #[true, true, true, true, true, true, true, true, true, true, true, true, true, true, true, true, true, true, true, true, true, true, true, true] _ _
    refine wpAnyH_done (by kernel_rfl) ?_ 0
    clear hHeld
    generalize y3.setCell ⟨q0, 4, none⟩ (.int .i64 (n3 : Nat)) = w4 at *
    have d4 : _ = some (Value.string S4) := (HV9.out.at HGL.out (by simp; exact hgq) (o + 4)).trans HG4.out
    go_wp2_with fail
    refine (H4.out _).mono ?_
    rintro e v5 ⟨rfl, hu⟩
    have HB9 := Lib.hid (HB9.out.upd hu (by simp))
    have HU9 := Lib.hid (HU9.out.then hu)
    have HV9 := Lib.hid (HV9.out.then (hu.mono (fun k hk => by simp at hk)))
    clear hu d4
    have c2 := HB9.out.cell 2 rfl
    have f2 := HB9.out.frz 2
    go_upto_region 6 with fail
    have HB9 := Lib.hid (HB9.out.set 2 (.int .u32 (sm : Nat)))
    have HU9 := Lib.hid (Upd.setCell HU9.out (p := ⟨q0, 2, none⟩) (.inr HQ.out) (.int .u32 (sm : Nat)))
    have HV9 := Lib.hid (Upd.setCell HV9.out (p := ⟨q0, 2, none⟩) (.inl (by simp)) (.int .u32 (sm : Nat)))
    simp only [List.set_cons_zero, List.set_cons_succ] at HB9
    clear c2 f2
    generalize (v5.setCell ⟨q0, 2, none⟩ (.int .u32 (sm : Nat))) = u5 at *
    have d5 : _ = some (Value.string S5) := (HV9.out.at HGL.out (by simp; exact hgq) (o + 5)).trans HG5.out
    go_wp2_with fail
    refine (HM.out _).mono ?_
    rintro e v6 ⟨rfl, hu⟩
    have HB9 := Lib.hid (HB9.out.upd hu (by simp))
    have HU9 := Lib.hid (HU9.out.then hu)
    have HV9 := Lib.hid (HV9.out.then (hu.mono (fun k hk => by simp at hk)))
    clear hu d5
    have c6 := HB9.out.cell 6 rfl
    have f6 := HB9.out.frz 6
    go_upto_region 7 with fail
    have HB9 := Lib.hid (HB9.out.set 6 (.int .i64 (md : Nat)))
    have HU9 := Lib.hid (Upd.setCell HU9.out (p := ⟨q0, 6, none⟩) (.inr HQ.out) (.int .i64 (md : Nat)))
    have HV9 := Lib.hid (Upd.setCell HV9.out (p := ⟨q0, 6, none⟩) (.inl (by simp)) (.int .i64 (md : Nat)))
    simp only [List.set_cons_zero, List.set_cons_succ] at HB9
    clear c6 f6
    generalize (v6.setCell ⟨q0, 6, none⟩ (.int .i64 (md : Nat))) = u6 at *
    have a1p := HA1.out
    have a2p := HA2.out
    refine wp_region_held_drew (S := fun w' => ∃ x7, Blk w' q0 [.string ⟨#[]⟩, .int .i64 (n1 : Nat), .int .u32 (sm : Nat), .int .i64 (n2 : Nat), .int .i64 (n3 : Nat), .int .i64 0, .int .i64 (md : Nat), x7, .int .i64 (n0 : Nat)] 24 ∧ Upd [] w w' ∧ Upd [q0] w1 w') (by kernel_rfl) ⟨_, HB9.out, HU9.out.drew, HV9.out.drew⟩ (fun hHeld => ?_)
    change wpAnyH _ _ _ _ _ 14 #[false, false, false, false, false, false, false, false, false, false, false, false, false, false] _ _
    refine heldTake (i := 0) (d := some 46) (v := ?v0_25) rfl rfl (by kernel_rfl) (by kernel_rfl) (by kernel_rfl) (fun _ _ _ h => h) (by rfl) ?hy0_25 (by assumption) ?r0_25
    case hy0_25 => (intro w hSw; (try dsimp only at hSw); go_simp; try with_reducible rfl)
    try simp only [Act.put, List.setIfInBounds_toArray, List.set_cons_zero, List.set_cons_succ]
    change wpAnyH _ _ _ _ _ 13 #[true, false, false, false, false, false, false, false, false, false, false, false, false, false] _ _
    refine heldTake (i := 1) (d := some 47) (v := ?v1_26) rfl rfl (by kernel_rfl) (by kernel_rfl) (by kernel_rfl) (fun _ _ _ h => h) (by rfl) ?hy1_26 (by assumption) ?r1_26
    case hy1_26 => (intro w hSw; (try dsimp only at hSw); go_simp; try with_reducible rfl)
    try simp only [Act.put, List.setIfInBounds_toArray, List.set_cons_zero, List.set_cons_succ]
    change wpAnyH _ _ _ _ _ 12 #[true, true, false, false, false, false, false, false, false, false, false, false, false, false] _ _
    refine heldTake (i := 2) (d := some 48) (v := ?v2_27) rfl rfl (by kernel_rfl) (by kernel_rfl) (by kernel_rfl) (fun _ _ _ h => h) (by rfl) ?hy2_27 (by assumption) ?r2_27
    case hy2_27 => (intro w5 hSw; obtain ⟨x7, hB5, hU5, hV5⟩ := hSw; have d5 : _ = some (Value.string S6) := (hV5.at HGL.out (by simp; exact hgq) (o + 6)).trans HG6.out; go_simp; try with_reducible rfl)
    try simp only [Act.put, List.setIfInBounds_toArray, List.set_cons_zero, List.set_cons_succ]
    change wpAnyH _ _ _ _ _ 11 #[true, true, true, false, false, false, false, false, false, false, false, false, false, false] _ _
    refine heldTake (i := 3) (d := some 49) (v := ?v3_28) rfl rfl (by kernel_rfl) (by kernel_rfl) (by kernel_rfl) (fun _ _ _ h => h) (by rfl) ?hy3_28 (by assumption) ?r3_28
    case hy3_28 => (intro w hSw; (try dsimp only at hSw); go_simp; try with_reducible rfl)
    try simp only [Act.put, List.setIfInBounds_toArray, List.set_cons_zero, List.set_cons_succ]
    change wpAnyH _ _ _ _ _ 10 #[true, true, true, true, false, false, false, false, false, false, false, false, false, false] _ _
    refine heldTake (i := 4) (d := some 50) (v := ?v4_29) rfl rfl (by kernel_rfl) (by kernel_rfl) (by kernel_rfl) (fun _ _ _ h => h) (by rfl) ?hy4_29 (by assumption) ?r4_29
    case hy4_29 => (intro w hSw; (try dsimp only at hSw); go_simp; try with_reducible rfl)
    try simp only [Act.put, List.setIfInBounds_toArray, List.set_cons_zero, List.set_cons_succ]
    change wpAnyH _ _ _ _ _ 9 #[true, true, true, true, true, false, false, false, false, false, false, false, false, false] _ _
    refine heldTake (i := 5) (d := some 51) (v := ?v5_30) rfl rfl (by kernel_rfl) (by kernel_rfl) (by kernel_rfl) (fun _ _ _ h => h) (by rfl) ?hy5_30 (by assumption) ?r5_30
    case hy5_30 => (intro w hSw; (try dsimp only at hSw); go_simp; try with_reducible rfl)
    try simp only [Act.put, List.setIfInBounds_toArray, List.set_cons_zero, List.set_cons_succ]
    change wpAnyH _ _ _ _ _ 8 #[true, true, true, true, true, true, false, false, false, false, false, false, false, false] _ _
    refine heldTake (i := 6) (d := some 52) (v := ?v6_31) rfl rfl (by kernel_rfl) (by kernel_rfl) (by kernel_rfl) (fun _ _ _ h => h) (by rfl) ?hy6_31 (by assumption) ?r6_31
    case hy6_31 => (intro w5 hSw; obtain ⟨x7, hB5, hU5, hV5⟩ := hSw; have d5 : _ = some (Value.string S7) := (hV5.at HGL.out (by simp; exact hgq) (o + 7)).trans HG7.out; go_simp; try with_reducible rfl)
    try simp only [Act.put, List.setIfInBounds_toArray, List.set_cons_zero, List.set_cons_succ]
    change wpAnyH _ _ _ _ _ 7 #[true, true, true, true, true, true, true, false, false, false, false, false, false, false] _ _
    refine heldTake (i := 7) (d := some 53) (v := ?v7_32) rfl rfl (by kernel_rfl) (by kernel_rfl) (by kernel_rfl) (fun _ _ _ h => h) (by rfl) ?hy7_32 (by assumption) ?r7_32
    case hy7_32 => (intro w hSw; (try dsimp only at hSw); go_simp; try with_reducible rfl)
    try simp only [Act.put, List.setIfInBounds_toArray, List.set_cons_zero, List.set_cons_succ]
    change wpAnyH _ _ _ _ _ 6 #[true, true, true, true, true, true, true, true, false, false, false, false, false, false] _ _
    refine wpAnyH_ready (rs := [8]) (by kernel_rfl) (by simp) ?_
    refine AllReadyH.cons rfl (fun K hK => ?_) AllReadyH.nil
    go_simp
    refine (HP.out _).mono ?_
    rintro e z9 ⟨rfl, hz9⟩
    obtain ⟨x7, hB9, hU9, hV9⟩ := hHeld
    go_wp2
    refine hK.out _ _ ⟨x7, hB9.upd hz9 (by simp), hU9.then hz9, hV9.then (hz9.mono (fun k hk => by simp at hk))⟩ (fun hHeld => ?_)
    clear hK K
    try simp only [Act.put, List.setIfInBounds_toArray, List.set_cons_zero, List.set_cons_succ]
    change wpAnyH _ _ _ _ _ 5 #[true, true, true, true, true, true, true, true, true, false, false, false, false, false] _ _
    refine heldTake (i := 9) (d := some 45) (v := ?v9_34) rfl rfl (by kernel_rfl) (by kernel_rfl) (by kernel_rfl) (fun _ _ _ h => h) (by rfl) ?hy9_34 (by assumption) ?r9_34
    case hy9_34 => (intro w hSw; (try dsimp only at hSw); go_simp; try with_reducible rfl)
    try simp only [Act.put, List.setIfInBounds_toArray, List.set_cons_zero, List.set_cons_succ]
    change wpAnyH _ _ _ _ _ 4 #[true, true, true, true, true, true, true, true, true, true, false, false, false, false] _ _
    refine heldTake (i := 10) (d := some 55) (v := ?v10_35) rfl rfl (by kernel_rfl) (by kernel_rfl) (by kernel_rfl) (fun _ _ _ h => h) (by rfl) ?hy10_35 (by assumption) ?r10_35
    case hy10_35 => (intro w hSw; (try dsimp only at hSw); go_simp; try with_reducible rfl)
    try simp only [Act.put, List.setIfInBounds_toArray, List.set_cons_zero, List.set_cons_succ]
    change wpAnyH _ _ _ _ _ 3 #[true, true, true, true, true, true, true, true, true, true, true, false, false, false] _ _
    refine heldTake (i := 11) (d := some 56) (v := ?v11_36) rfl rfl (by kernel_rfl) (by kernel_rfl) (by kernel_rfl) (fun _ _ _ h => h) (by rfl) ?hy11_36 (by assumption) ?r11_36
    case hy11_36 => (intro w hSw; (try dsimp only at hSw); go_simp; try with_reducible rfl)
    try simp only [Act.put, List.setIfInBounds_toArray, List.set_cons_zero, List.set_cons_succ]
    change wpAnyH _ _ _ _ _ 2 #[true, true, true, true, true, true, true, true, true, true, true, true, false, false] _ _
    refine heldTake (i := 12) (d := some 57) (v := ?v12_37) rfl rfl (by kernel_rfl) (by kernel_rfl) (by kernel_rfl) (fun _ _ _ h => h) (by rfl) ?hy12_37 (by assumption) ?r12_37
    case hy12_37 => (intro w hSw; (try dsimp only at hSw); go_simp; try with_reducible rfl)
    try simp only [Act.put, List.setIfInBounds_toArray, List.set_cons_zero, List.set_cons_succ]
    change wpAnyH _ _ _ _ _ 1 #[true, true, true, true, true, true, true, true, true, true, true, true, true, false] _ _
    refine wpAnyH_ready (rs := [13]) (by kernel_rfl) (by simp) ?_
    refine AllReadyH.cons rfl (fun K hK => ?_) AllReadyH.nil
    go_simp
    obtain ⟨x7, hB9, hU9, hV9⟩ := hHeld
    have c7 := hB9.cell 7 rfl
    have f7 := hB9.frz 7
    simp only [c7, f7, Bool.false_eq_true, ↓reduceIte]
    have HB9 := Lib.hid (Blk.set hB9 7 (.int .u32 (tt : Nat)))
    have HU9 := Lib.hid (Upd.setCell hU9 (p := ⟨q0, 7, none⟩) (.inr HQ.out) (.int .u32 (tt : Nat)))
    have HV9 := Lib.hid (Upd.setCell hV9 (p := ⟨q0, 7, none⟩) (.inl (by simp)) (.int .u32 (tt : Nat)))
    go_wp2
    refine hK.out _ _ ⟨.int .u32 (tt : Nat), HB9.out, HU9.out, HV9.out⟩ (fun hHeld => ?_)
    clear hK K
    try simp only [Act.put, List.setIfInBounds_toArray, List.set_cons_zero, List.set_cons_succ]
    change wpAnyH _ _ _ _ _ 0 #[true, true, true, true, true, true, true, true, true, true, true, true, true, true] _ _
    refine wpAnyH_done (by kernel_rfl) ?_ 0
    clear hHeld c7 f7 hB9 hU9 hV9 a1p a2p
    generalize z9.setCell ⟨q0, 7, none⟩ (.int .u32 (tt : Nat)) = u7 at *
    simp only [List.set_cons_zero, List.set_cons_succ] at HB9
    have d8 : _ = some (Value.string S8) := (HV9.out.at HGL.out (by simp; exact hgq) (o + 8)).trans HG8.out
    go_wp2_with fail
    refine (HPA.out _).mono ?_
    rintro e v8 ⟨rfl, hu⟩
    have HB9 := Lib.hid (HB9.out.upd hu (by simp))
    have HU9 := Lib.hid (HU9.out.then hu)
    have HV9 := Lib.hid (HV9.out.then (hu.mono (fun k hk => by simp at hk)))
    clear hu d8
    have c0 := HB9.out.cell 0 rfl
    have f0 := HB9.out.frz 0
    have c5 := HB9.out.cell 5 rfl
    have f5 := HB9.out.frz 5
    go_upto_region 9 with fail
    have HB9 := Lib.hid (HB9.out.set 0 (.string PP))
    have HU9 := Lib.hid (Upd.setCell HU9.out (p := ⟨q0, 0, none⟩) (.inr HQ.out) (.string PP))
    have HV9 := Lib.hid (Upd.setCell HV9.out (p := ⟨q0, 0, none⟩) (.inl (by simp)) (.string PP))
    have HB9 := Lib.hid (HB9.out.set 5 (.int .i64 (kk : Nat)))
    have HU9 := Lib.hid (Upd.setCell HU9.out (p := ⟨q0, 5, none⟩) (.inr HQ.out) (.int .i64 (kk : Nat)))
    have HV9 := Lib.hid (Upd.setCell HV9.out (p := ⟨q0, 5, none⟩) (.inl (by simp)) (.int .i64 (kk : Nat)))
    simp only [List.set_cons_zero, List.set_cons_succ] at HB9
    clear c0 f0 c5 f5
    generalize ((v8.setCell ⟨q0, 0, none⟩ (.string PP)).setCell ⟨q0, 5, none⟩ (.int .i64 (kk : Nat))) = u8 at *
    obtain ⟨TXT, hTXT⟩ : ∃ TXT, rowP R = TXT := ⟨_, rfl⟩
    rw [hTXT] at HOK heq
    rw [HPRE.out] at hTXT
    rw [hTXT] at HDR
    clear hTXT
    have k0 := HB9.out.cell 0 rfl
    have g0 := HB9.out.frz 0
    have k1 := HB9.out.cell 1 rfl
    have g1 := HB9.out.frz 1
    have k2 := HB9.out.cell 2 rfl
    have g2 := HB9.out.frz 2
    have k3 := HB9.out.cell 3 rfl
    have g3 := HB9.out.frz 3
    have k4 := HB9.out.cell 4 rfl
    have g4 := HB9.out.frz 4
    have k5 := HB9.out.cell 5 rfl
    have g5 := HB9.out.frz 5
    have k6 := HB9.out.cell 6 rfl
    have g6 := HB9.out.frz 6
    have k7 := HB9.out.cell 7 rfl
    have g7 := HB9.out.frz 7
    have k8 := HB9.out.cell 8 rfl
    have g8 := HB9.out.frz 8
    go_wp2_with fail
    refine (HDR.out _).mono ?_
    rintro e wt ⟨rfl, hut⟩
    have HBT := Lib.hid (HB9.out.upd hut (by simp))
    have HUT := Lib.hid (HU9.out.then hut)
    clear hut
    clear k0 g0 k1 g1 k2 g2 k3 g3 k4 g4 k5 g5 k6 g6 k7 g7 k8 g8
    have k0 := HBT.out.cell 0 rfl
    have g0 := HBT.out.frz 0
    have k1 := HBT.out.cell 1 rfl
    have g1 := HBT.out.frz 1
    have k2 := HBT.out.cell 2 rfl
    have g2 := HBT.out.frz 2
    have k3 := HBT.out.cell 3 rfl
    have g3 := HBT.out.frz 3
    have k4 := HBT.out.cell 4 rfl
    have g4 := HBT.out.frz 4
    have k5 := HBT.out.cell 5 rfl
    have g5 := HBT.out.frz 5
    have k6 := HBT.out.cell 6 rfl
    have g6 := HBT.out.frz 6
    have k7 := HBT.out.cell 7 rfl
    have g7 := HBT.out.frz 7
    have k8 := HBT.out.cell 8 rfl
    have g8 := HBT.out.frz 8
    by_cases htx : TXT = l
    · have hq1 : ((strOf TXT).toList == S.toList) = true := by rw [heq]; exact decide_eq_true htx
      have hq2 : ((strOf TXT).toList != S.toList) = false := by rw [bne, hq1]; rfl
      have HN : Hid (rowOk l = true) := Lib.hid (by rw [HOK.out.1, decide_eq_true htx])
      have HNN := Lib.hid ((HOK.out.2 HN.out).trans HPRE.out)
      clear heq htx
      go_wp2
      refine bodyPost_ret (results_rc rfl _ _ q0 ⟨PP, (n1 : Nat), sm, (n2 : Nat), (n3 : Nat), (kk : Nat), (md : Nat), tt, (n0 : Nat)⟩ rfl (Blk.set (Blk.set (Blk.set (Blk.set (Blk.set (Blk.set (Blk.set (Blk.set (Blk.set HBT.out 0 (.string PP)) 1 (.int .i64 (n1 : Nat))) 2 (.int .u32 (sm : Nat))) 3 (.int .i64 (n2 : Nat))) 4 (.int .i64 (n3 : Nat))) 5 (.int .i64 (kk : Nat))) 6 (.int .i64 (md : Nat))) 7 (.int .u32 (tt : Nat))) 8 (.int .i64 (n0 : Nat)))) rfl ?_
      exact ⟨by rw [HNN.out, HN.out]; rfl, (Upd.setCell (Upd.setCell (Upd.setCell (Upd.setCell (Upd.setCell (Upd.setCell (Upd.setCell (Upd.setCell (Upd.setCell HUT.out (p := ⟨q0, 0, none⟩) (.inr HQ.out) (.string PP)) (p := ⟨q0, 1, none⟩) (.inr HQ.out) (.int .i64 (n1 : Nat))) (p := ⟨q0, 2, none⟩) (.inr HQ.out) (.int .u32 (sm : Nat))) (p := ⟨q0, 3, none⟩) (.inr HQ.out) (.int .i64 (n2 : Nat))) (p := ⟨q0, 4, none⟩) (.inr HQ.out) (.int .i64 (n3 : Nat))) (p := ⟨q0, 5, none⟩) (.inr HQ.out) (.int .i64 (kk : Nat))) (p := ⟨q0, 6, none⟩) (.inr HQ.out) (.int .i64 (md : Nat))) (p := ⟨q0, 7, none⟩) (.inr HQ.out) (.int .u32 (tt : Nat))) (p := ⟨q0, 8, none⟩) (.inr HQ.out) (.int .i64 (n0 : Nat)))⟩
    · have hq1 : ((strOf TXT).toList == S.toList) = false := by rw [heq]; exact decide_eq_false htx
      have hq2 : ((strOf TXT).toList != S.toList) = true := by rw [bne, hq1]; rfl
      have HN : Hid (rowOk l = false) := Lib.hid (by rw [HOK.out.1, decide_eq_false htx])
      clear heq htx
      go_wp2
      refine bodyPost_ret (results_rc rfl _ _ q0 RecD.no rfl (Blk.set (Blk.set (Blk.set (Blk.set (Blk.set (Blk.set (Blk.set (Blk.set (Blk.set HBT.out 0 (.string ⟨#[]⟩)) 1 (.int .i64 0)) 2 (.int .u32 0)) 3 (.int .i64 0)) 4 (.int .i64 0)) 5 (.int .i64 0)) 6 (.int .i64 0)) 7 (.int .u32 0)) 8 (.int .i64 0))) rfl ?_
      exact ⟨by rw [rowR_no HN.out, HN.out]; rfl, (Upd.setCell (Upd.setCell (Upd.setCell (Upd.setCell (Upd.setCell (Upd.setCell (Upd.setCell (Upd.setCell (Upd.setCell HUT.out (p := ⟨q0, 0, none⟩) (.inr HQ.out) (.string ⟨#[]⟩)) (p := ⟨q0, 1, none⟩) (.inr HQ.out) (.int .i64 0)) (p := ⟨q0, 2, none⟩) (.inr HQ.out) (.int .u32 0)) (p := ⟨q0, 3, none⟩) (.inr HQ.out) (.int .i64 0)) (p := ⟨q0, 4, none⟩) (.inr HQ.out) (.int .i64 0)) (p := ⟨q0, 5, none⟩) (.inr HQ.out) (.int .i64 0)) (p := ⟨q0, 6, none⟩) (.inr HQ.out) (.int .i64 0)) (p := ⟨q0, 7, none⟩) (.inr HQ.out) (.int .u32 0)) (p := ⟨q0, 8, none⟩) (.inr HQ.out) (.int .i64 0))⟩
  · have hn9 : (ps.length : Int) < 9 := by omega
    have HN : Hid (rowOk l = false) := Lib.hid (by unfold rowOk; rw [HPS.out]; exact decide_eq_false (fun h => h9 h.1))
    have k0 := HB1.out.cell 0 rfl
    have g0 := HB1.out.frz 0
    have k1 := HB1.out.cell 1 rfl
    have g1 := HB1.out.frz 1
    have k2 := HB1.out.cell 2 rfl
    have g2 := HB1.out.frz 2
    have k3 := HB1.out.cell 3 rfl
    have g3 := HB1.out.frz 3
    have k4 := HB1.out.cell 4 rfl
    have g4 := HB1.out.frz 4
    have k5 := HB1.out.cell 5 rfl
    have g5 := HB1.out.frz 5
    have k6 := HB1.out.cell 6 rfl
    have g6 := HB1.out.frz 6
    have k7 := HB1.out.cell 7 rfl
    have g7 := HB1.out.frz 7
    have k8 := HB1.out.cell 8 rfl
    have g8 := HB1.out.frz 8
    go_wp2
    refine bodyPost_ret (results_rc rfl _ _ q0 RecD.no rfl (Blk.set (Blk.set (Blk.set (Blk.set (Blk.set (Blk.set (Blk.set (Blk.set (Blk.set HB1.out 0 (.string ⟨#[]⟩)) 1 (.int .i64 0)) 2 (.int .u32 0)) 3 (.int .i64 0)) 4 (.int .i64 0)) 5 (.int .i64 0)) 6 (.int .i64 0)) 7 (.int .u32 0)) 8 (.int .i64 0))) rfl ?_
    exact ⟨by rw [rowR_no HN.out, HN.out]; rfl, (Upd.setCell (Upd.setCell (Upd.setCell (Upd.setCell (Upd.setCell (Upd.setCell (Upd.setCell (Upd.setCell (Upd.setCell HU1.out (p := ⟨q0, 0, none⟩) (.inr HQ.out) (.string ⟨#[]⟩)) (p := ⟨q0, 1, none⟩) (.inr HQ.out) (.int .i64 0)) (p := ⟨q0, 2, none⟩) (.inr HQ.out) (.int .u32 0)) (p := ⟨q0, 3, none⟩) (.inr HQ.out) (.int .i64 0)) (p := ⟨q0, 4, none⟩) (.inr HQ.out) (.int .i64 0)) (p := ⟨q0, 5, none⟩) (.inr HQ.out) (.int .i64 0)) (p := ⟨q0, 6, none⟩) (.inr HQ.out) (.int .i64 0)) (p := ⟨q0, 7, none⟩) (.inr HQ.out) (.int .u32 0)) (p := ⟨q0, 8, none⟩) (.inr HQ.out) (.int .i64 0))⟩
end Go.Proofs.YtigjingielnaoaaDoor
