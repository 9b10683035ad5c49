/- Package swingleref35: Line, for any event: its walk. -/
import Derived.BigRegion
import Derived.Test.YtigjingielnaoaaGreatDoorRRt
import Derived.Test.YtigjingielnaoaaGreatDoorScR
import Derived.Test.YtigjingielnaoaaGreatDoorSLn
namespace Go.Proofs.YtigjingielnaoaaGreatDoor
set_option linter.unusedVariables false
set_option linter.unusedSimpArgs false
set_option linter.unusedSectionVars false
open Go.RowKit
set_option linter.unusedVariables false
set_option linter.unusedSimpArgs false

theorem rnames_any (w : World) : Calls Tryz.prog 9 #[] w fun e w' => e = .returned (.slice (some ⟨w.heap.size, 0, none⟩) 15 15) ∧ w' = w.alloc (.cells #[.string ⟨#[]⟩, .string ⟨#[112, 117, 116]⟩, .string ⟨#[99, 108, 101, 97, 114]⟩, .string ⟨#[114, 101, 110, 97, 109, 101]⟩, .string ⟨#[101, 100, 105, 116]⟩, .string ⟨#[115, 121, 110, 99]⟩, .string ⟨#[112, 97, 99, 107]⟩, .string ⟨#[117, 110, 112, 97, 99, 107]⟩, .string ⟨#[99, 111, 109, 112, 97, 99, 116]⟩, .string ⟨#[118, 101, 114, 105, 102, 121]⟩, .string ⟨#[115, 116, 97, 116, 117, 115]⟩, .string ⟨#[112, 111, 119, 101, 114]⟩, .string ⟨#[102, 97, 105, 108]⟩, .string ⟨#[108, 105, 109, 105, 116]⟩, .string ⟨#[114, 101, 99, 111, 118, 101, 114]⟩] 9) := by
  go_enter Tryz.func9, Tryz.ntmps9
  go_wp2
  go_ret
  exact ⟨rfl, rfl⟩
/-- Two texts, one behind the other. -/
theorem run_addS (A B : ByteArray) (L M : List Nat) (hA : strOf L = A) (hB : strOf M = B) (hs : L.length + M.length ≤ 1000000) (w : World) : (Op.stringOp .add A B).run Tryz.prog w = .ok (.string (strOf (L ++ M))) w := by
  subst hA hB
  rw [run_string_add_sum _ _ _ (by rw [size_strOf, size_strOf]; omega), ← strOf_cat]
theorem rnames_at (i : Nat) (h : 1 ≤ i ∧ i ≤ 14) : ([.string ⟨#[]⟩, .string ⟨#[112, 117, 116]⟩, .string ⟨#[99, 108, 101, 97, 114]⟩, .string ⟨#[114, 101, 110, 97, 109, 101]⟩, .string ⟨#[101, 100, 105, 116]⟩, .string ⟨#[115, 121, 110, 99]⟩, .string ⟨#[112, 97, 99, 107]⟩, .string ⟨#[117, 110, 112, 97, 99, 107]⟩, .string ⟨#[99, 111, 109, 112, 97, 99, 116]⟩, .string ⟨#[118, 101, 114, 105, 102, 121]⟩, .string ⟨#[115, 116, 97, 116, 117, 115]⟩, .string ⟨#[112, 111, 119, 101, 114]⟩, .string ⟨#[102, 97, 105, 108]⟩, .string ⟨#[108, 105, 109, 105, 116]⟩, .string ⟨#[114, 101, 99, 111, 118, 101, 114]⟩] : List Value)[i]? = some (.string (strOf (nameN (i : Int)))) := by
  obtain ⟨h1, h2⟩ := h
  have hall : ∀ j : Fin 14, ([.string ⟨#[]⟩, .string ⟨#[112, 117, 116]⟩, .string ⟨#[99, 108, 101, 97, 114]⟩, .string ⟨#[114, 101, 110, 97, 109, 101]⟩, .string ⟨#[101, 100, 105, 116]⟩, .string ⟨#[115, 121, 110, 99]⟩, .string ⟨#[112, 97, 99, 107]⟩, .string ⟨#[117, 110, 112, 97, 99, 107]⟩, .string ⟨#[99, 111, 109, 112, 97, 99, 116]⟩, .string ⟨#[118, 101, 114, 105, 102, 121]⟩, .string ⟨#[115, 116, 97, 116, 117, 115]⟩, .string ⟨#[112, 111, 119, 101, 114]⟩, .string ⟨#[102, 97, 105, 108]⟩, .string ⟨#[108, 105, 109, 105, 116]⟩, .string ⟨#[114, 101, 99, 111, 118, 101, 114]⟩] : List Value)[j.1 + 1]? = some (.string (strOf (opNames.getD j.1 []))) := by
    intro ⟨j, hj⟩
    rcases j with _ | _ | _ | _ | _ | _ | _ | _ | _ | _ | _ | _ | _ | _ | j
    all_goals first | rfl | omega
  have := hall ⟨i - 1, by omega⟩
  unfold nameN
  rw [if_pos (by omega)]
  rw [show i - 1 + 1 = i by omega] at this
  rw [this]
  rfl
set_option maxRecDepth 100000 in
set_option maxHeartbeats 12800000 in
theorem rline35_any (e : EvN) (w : World) (hv : IntsAt w e.v e.l) (hl : e.l.length ≤ 9223372036854775807) (ht : e.t < 4294967296) (hp : e.p.size ≤ 1100000) (hq : e.q.size ≤ 1100000) (hD : e.D.size ≤ 1000) :
    Calls Tryz.prog 7 #[e.val] w fun r w' => r = .returned (.string (strOf (lineE e))) ∧ Upd [] w w' := by
  have HR := Lib.hid (fun z (hz : Upd [] w z) => rright35_any e z (hv.upd hz) hl ht hp hq (by omega))
  have HB0 := Lib.hid (Blk.new w e.cells 27)
  have HU0 := Lib.hid ((Upd.refl [] w).alloc (.cells e.cells.toArray 27))
  cases hr : rightE e with
  | false =>
    have HV : Hid (lineE e = []) := Lib.hid (by unfold lineE; rw [if_neg (by rw [hr]; decide)])
    rw [hr] at HR
    clear hr hv hl ht hp hq hD
    generalize lineE e = LE at *
    obtain ⟨op, p, q, k, m, t, D, n, v, l⟩ := e
    unfold EvN.val EvN.cells at *
    dsimp only at *
    go_enter Tryz.func7, Tryz.ntmps7
    go_wp2_with fail
    refine (HR.out _ HU0.out).mono ?_
    rintro e w1 ⟨rfl, hu1⟩
    go_wp2
    go_ret
    exact ⟨by rw [HV.out]; rfl, HU0.out.then hu1⟩
  | true =>
    have hm := (rightE_iff.1 hr).1
    have HV : Hid (lineE e = joinC 9 (nameN e.op :: argsE e)) := Lib.hid (if_pos hr)
    have HBD := Lib.hid (words_bd hm)
    have HOP := Lib.hid (mayE_op hm)
    have HMA := Lib.hid hm
    rw [hr] at HR
    clear hr hm
    generalize lineE e = LE at *
    obtain ⟨op, p, q, k, m, t, D, n, v, l⟩ := e
    dsimp only at hv hl ht hp hq hD HV HOP HBD
    have HTX := Lib.hid (fun z => rtext35_any k m t D z ht hD)
    unfold nodeV at HTX
    obtain ⟨va, vc, rfl, hvc, hvx⟩ := hv
    have HVX := Lib.hid hvx
    clear hvx ht hp hq hD
    obtain ⟨i, hi⟩ : ∃ i : Nat, op = (i : Int) := ⟨op.toNat, by have := HOP.out; omega⟩
    have hi1 : 1 ≤ i ∧ i ≤ 14 := by have := HOP.out; omega
    have HI := Lib.hid hi
    have HNA := Lib.hid (rnames_at i hi1)
    have hi15 : (i : Int) < 15 := by omega
    have hi15n : i < 15 := by omega
    obtain ⟨nm, hnm⟩ : ∃ nm, nameN op = nm := ⟨_, rfl⟩
    have hnl := nameN_len op
    have HNMI : Hid (nameN (i : Int) = nm) := Lib.hid (by rw [← hi, hnm])
    rw [hnm] at HV HBD hnl
    clear hnm hi hi1
    obtain ⟨len, hlen⟩ : ∃ len, l.length = len := ⟨_, rfl⟩
    have HLN := Lib.hid hlen
    unfold EvN.val EvN.cells at *
    dsimp only at *
    rw [hlen] at hvc hl HB0 HU0 HR ⊢
    clear hlen
    go_enter Tryz.func7, Tryz.ntmps7
    go_wp2_with fail
    change Calls _ _ _ (w.alloc (.cells #[.int .i64 op, .string p, .string q, .int .i64 k, .int .i64 m, .int .u32 (t : Nat), .string D, .int .i64 n, .slice va len vc] 27)) _
    generalize w.alloc (.cells #[.int .i64 op, .string p, .string q, .int .i64 k, .int .i64 m, .int .u32 (t : Nat), .string D, .int .i64 n, .slice va len vc] 27) = w0 at *
    obtain ⟨q0, hq0⟩ : ∃ q0, w.heap.size = q0 := ⟨_, rfl⟩
    rw [hq0] at HB0 ⊢
    clear hq0
    refine (HR.out _ HU0.out).mono ?_
    rintro e w1 ⟨rfl, hu1⟩
    have HB1 := Lib.hid (HB0.out.upd hu1 (by simp))
    have HU1 := Lib.hid (HU0.out.then hu1)
    clear hu1 HB0 HU0 HR
    go_upto_region 3 with fail
    refine wp_region_held_drew (S := fun w' => Blk w' q0 [.int .i64 op, .string p, .string q, .int .i64 k, .int .i64 m, .int .u32 (t : Nat), .string D, .int .i64 n, .slice va len vc] 27) (by kernel_rfl) (HB1.out.upd ((Upd.refl [] _).drew) (by simp)) (fun hHeld => ?_)
    change wpAnyH _ _ _ _ _ 6 #[false, false, false, false, false, false] _ _
    refine heldTake (i := 1) (d := some 10) (v := ?v1_23) rfl rfl (by kernel_rfl) (by kernel_rfl) (by kernel_rfl) (fun _ _ _ h => h) (by rfl) ?hy1_23 (by assumption) ?r1_23
    case hy1_23 => (intro w hSw; (try dsimp only at hSw); go_simp; try with_reducible rfl)
    try simp only [Act.put, List.setIfInBounds_toArray, List.set_cons_zero, List.set_cons_succ]
    change wpAnyH _ _ _ _ _ 5 #[false, true, false, false, false, false] _ _
    refine heldTake (i := 2) (d := some 11) (v := ?v2_24) rfl rfl (by kernel_rfl) (by kernel_rfl) (by kernel_rfl) (fun _ _ _ h => h) (by rfl) ?hy2_24 (by assumption) ?r2_24
    case hy2_24 => (intro w5 hSw; have q0c0 := hSw.cell 0 rfl; rw [HI.out] at q0c0; go_simp; try with_reducible rfl)
    try simp only [Act.put, List.setIfInBounds_toArray, List.set_cons_zero, List.set_cons_succ]
    change wpAnyH _ _ _ _ _ 4 #[false, true, true, false, false, false] _ _
    refine wpAnyH_ready (rs := [0]) (by kernel_rfl) (by simp) ?_
    refine AllReadyH.cons rfl (fun K hK => ?_) AllReadyH.nil
    go_simp
    refine (rnames_any _).mono ?_
    rintro e z1 ⟨rfl, hz1⟩
    have HZ1 : Hid (Upd [] w1 z1) := Lib.hid (by rw [hz1]; exact ((Upd.refl [] w1).drew).alloc _)
    have HN1 : Hid (Blk z1 w1.heap.size [.string ⟨#[]⟩, .string ⟨#[112, 117, 116]⟩, .string ⟨#[99, 108, 101, 97, 114]⟩, .string ⟨#[114, 101, 110, 97, 109, 101]⟩, .string ⟨#[101, 100, 105, 116]⟩, .string ⟨#[115, 121, 110, 99]⟩, .string ⟨#[112, 97, 99, 107]⟩, .string ⟨#[117, 110, 112, 97, 99, 107]⟩, .string ⟨#[99, 111, 109, 112, 97, 99, 116]⟩, .string ⟨#[118, 101, 114, 105, 102, 121]⟩, .string ⟨#[115, 116, 97, 116, 117, 115]⟩, .string ⟨#[112, 111, 119, 101, 114]⟩, .string ⟨#[102, 97, 105, 108]⟩, .string ⟨#[108, 105, 109, 105, 116]⟩, .string ⟨#[114, 101, 99, 111, 118, 101, 114]⟩] 9) := Lib.hid (by rw [hz1]; exact Blk.new w1.drew [.string ⟨#[]⟩, .string ⟨#[112, 117, 116]⟩, .string ⟨#[99, 108, 101, 97, 114]⟩, .string ⟨#[114, 101, 110, 97, 109, 101]⟩, .string ⟨#[101, 100, 105, 116]⟩, .string ⟨#[115, 121, 110, 99]⟩, .string ⟨#[112, 97, 99, 107]⟩, .string ⟨#[117, 110, 112, 97, 99, 107]⟩, .string ⟨#[99, 111, 109, 112, 97, 99, 116]⟩, .string ⟨#[118, 101, 114, 105, 102, 121]⟩, .string ⟨#[115, 116, 97, 116, 117, 115]⟩, .string ⟨#[112, 111, 119, 101, 114]⟩, .string ⟨#[102, 97, 105, 108]⟩, .string ⟨#[108, 105, 109, 105, 116]⟩, .string ⟨#[114, 101, 99, 111, 118, 101, 114]⟩] 9)
    have cn := HN1.out.cell i HNA.out
    rw [HNMI.out] at cn
    have hb1z : Blk z1 q0 [.int .i64 op, .string p, .string q, .int .i64 k, .int .i64 m, .int .u32 (t : Nat), .string D, .int .i64 n, .slice va len vc] 27 := by rw [hz1]; exact hHeld.alloc _
    clear hz1
    go_wp2
    refine hK.out _ _ hb1z (fun hHeld => ?_)
    clear hK K
    try simp only [Act.put, List.setIfInBounds_toArray, List.set_cons_zero, List.set_cons_succ]
    change wpAnyH _ _ _ _ _ 3 #[true, true, true, false, false, false] _ _
    refine heldTake (i := 3) (d := some 12) (v := ?v3_26) rfl rfl (by kernel_rfl) (by kernel_rfl) (by kernel_rfl) (fun _ _ _ h => h) (by rfl) ?hy3_26 (by assumption) ?r3_26
    case hy3_26 => (intro w hSw; (try dsimp only at hSw); go_simp; try with_reducible rfl)
    try simp only [Act.put, List.setIfInBounds_toArray, List.set_cons_zero, List.set_cons_succ]
    change wpAnyH _ _ _ _ _ 2 #[true, true, true, true, false, false] _ _
    refine wpAnyH_ready (rs := [4]) (by kernel_rfl) (by simp) ?_
    refine AllReadyH.cons rfl (fun K hK => ?_) AllReadyH.nil
    go_simp
    skip
    go_wp2
    refine hK.out _ _ hHeld (fun hHeld => ?_)
    clear hK K
    try simp only [Act.put, List.setIfInBounds_toArray, List.set_cons_zero, List.set_cons_succ]
    change wpAnyH _ _ _ _ _ 1 #[true, true, true, true, true, false] _ _
    refine heldTake (i := 5) (d := some 3) (v := ?v5_28) rfl rfl (by kernel_rfl) (by kernel_rfl) (by kernel_rfl) (fun _ _ _ h => h) (by rfl) ?hy5_28 (by assumption) ?r5_28
    case hy5_28 => (intro w hSw; (try dsimp only at hSw); go_simp; try with_reducible rfl)
    try simp only [Act.put, List.setIfInBounds_toArray, List.set_cons_zero, List.set_cons_succ]
    change wpAnyH _ _ _ _ _ 0 #[true, true, true, true, true, true] _ _
    refine wpAnyH_done (by kernel_rfl) ?_ 0
    have HB3 := Lib.hid hHeld
    have HU3 := Lib.hid (HU1.out.then HZ1.out)
    clear hHeld HB1 HU1 HZ1 HN1 cn hb1z HNA hi15 hi15n HNMI
    have hcase : op = 1 ∨ op = 4 ∨ op = 2 ∨ op = 3 ∨ op = 5 ∨ op = 11 ∨ op = 12 ∨ op = 13 ∨ op = 14 ∨ op = 6 ∨ op = 7 ∨ op = 8 ∨ op = 9 ∨ op = 10 := by have := HOP.out; omega
    clear HI
    rcases hcase with rfl | rfl | rfl | rfl | rfl | rfl | rfl | rfl | rfl | rfl | rfl | rfl | rfl | rfl
    · as_aux_lemma =>
      obtain ⟨TX, hTX⟩ : ∃ TX, (NodN.mk k m t D).text = TX := ⟨_, rfl⟩
      rw [hTX] at HTX
      have HA0 : Hid (argsE ⟨1, p, q, k, m, t, D, n, .slice va l.length vc, l⟩ = [bytesOf p, TX]) := Lib.hid (by unfold argsE; rw [← hTX]; rfl)
      rw [HA0.out] at HV HBD
      clear HA0
      have c0 := HB3.out.cell 0 rfl
      have c1 := HB3.out.cell 1 rfl
      have c2 := HB3.out.cell 2 rfl
      have c3 := HB3.out.cell 3 rfl
      have c4 := HB3.out.cell 4 rfl
      have c5 := HB3.out.cell 5 rfl
      have c6 := HB3.out.cell 6 rfl
      have c7 := HB3.out.cell 7 rfl
      have c8 := HB3.out.cell 8 rfl
      clear hTX
      have hpl : (bytesOf p).length ≤ 131000 := (HBD.out _ (by simp)).1
      have hsp := strOf_bytesOf p
      have htl : TX.length ≤ 131000 := (HBD.out TX (by simp)).1
      have ha1 := run_addS (({ data := #[9] } : ByteArray)) (p) ([9]) (bytesOf p) rfl hsp (by simp; omega)
      have ha2 := run_addS (strOf ([9] ++ bytesOf p)) (({ data := #[9] } : ByteArray)) ([9] ++ bytesOf p) ([9]) rfl rfl (by simp; omega)
      have ha3 := run_addS (strOf ([9] ++ bytesOf p ++ [9])) (strOf TX) ([9] ++ bytesOf p ++ [9]) (TX) rfl rfl (by simp; omega)
      have ha4 := run_addS (strOf nm) (strOf ([9] ++ bytesOf p ++ [9] ++ TX)) (nm) ([9] ++ bytesOf p ++ [9] ++ TX) rfl rfl (by simp; omega)
      have HJ : Hid (joinC 9 (nm :: [bytesOf p, TX]) = nm ++ ([9] ++ bytesOf p ++ [9] ++ TX)) := Lib.hid (by simp [joinC])
      obtain ⟨X1, hX1⟩ : ∃ X, strOf ([9] ++ bytesOf p) = X := ⟨_, rfl⟩
      obtain ⟨X2, hX2⟩ : ∃ X, strOf ([9] ++ bytesOf p ++ [9]) = X := ⟨_, rfl⟩
      obtain ⟨X3, hX3⟩ : ∃ X, strOf ([9] ++ bytesOf p ++ [9] ++ TX) = X := ⟨_, rfl⟩
      obtain ⟨X4, hX4⟩ : ∃ X, strOf (nm ++ ([9] ++ bytesOf p ++ [9] ++ TX)) = X := ⟨_, rfl⟩
      have HX4 : Hid (strOf (joinC 9 (nm :: [bytesOf p, TX])) = X4) := Lib.hid (by rw [HJ.out, hX4])
      rw [hX1] at ha1 ha2
      rw [hX2] at ha2 ha3
      rw [hX3] at ha3 ha4
      rw [hX4] at ha4
      clear hX1 hX2 hX3 hX4 HJ
      obtain ⟨SNM, hSNM⟩ : ∃ X, strOf nm = X := ⟨_, rfl⟩
      obtain ⟨STX, hSTX⟩ : ∃ X, strOf TX = X := ⟨_, rfl⟩
      rw [hSNM] at ha4 ⊢
      rw [hSTX] at ha3 HTX
      clear hSNM hSTX
      go_upto_region 7 with fail
      clear c0 c1 c2 c3 c4 c5 c6 c7 c8
      obtain ⟨w3, hw3⟩ : ∃ w3, w3 = z1 := ⟨_, rfl⟩
      clear hw3
      refine wp_region_held_drew (S := fun w' => Blk w' q0 [.int .i64 1, .string p, .string q, .int .i64 k, .int .i64 m, .int .u32 (t : Nat), .string D, .int .i64 n, .slice va len vc] 27) (by kernel_rfl) (HB3.out.upd ((Upd.refl [] _).drew) (by simp)) (fun hHeld => ?_)
      change wpAnyH _ _ _ _ _ 11 #[false, false, false, false, false, false, false, false, false, false, false] _ _
      refine heldTake (i := 0) (d := some 19) (v := ?v0_1) rfl rfl (by kernel_rfl) (by kernel_rfl) (by kernel_rfl) (fun _ _ _ h => h) (by rfl) ?hy0_1 (by assumption) ?r0_1
      case hy0_1 => (intro w hSw; (try dsimp only at hSw); go_simp; try with_reducible rfl)
      try simp only [Act.put, List.setIfInBounds_toArray, List.set_cons_zero, List.set_cons_succ]
      change wpAnyH _ _ _ _ _ 10 #[true, false, false, false, false, false, false, false, false, false, false] _ _
      refine heldTake (i := 1) (d := some 20) (v := ?v1_2) rfl rfl (by kernel_rfl) (by kernel_rfl) (by kernel_rfl) (fun _ _ _ h => h) (by rfl) ?hy1_2 (by assumption) ?r1_2
      case hy1_2 => (intro w hSw; (try dsimp only at hSw); go_simp; try with_reducible rfl)
      try simp only [Act.put, List.setIfInBounds_toArray, List.set_cons_zero, List.set_cons_succ]
      change wpAnyH _ _ _ _ _ 9 #[true, true, false, false, false, false, false, false, false, false, false] _ _
      refine heldTake (i := 2) (d := some 21) (v := ?v2_3) rfl rfl (by kernel_rfl) (by kernel_rfl) (by kernel_rfl) (fun _ _ _ h => h) (by rfl) ?hy2_3 (by assumption) ?r2_3
      case hy2_3 => (intro w5 hSw; have q0c0 := hSw.cell 0 rfl; have q0c1 := hSw.cell 1 rfl; have q0c2 := hSw.cell 2 rfl; have q0c3 := hSw.cell 3 rfl; have q0c4 := hSw.cell 4 rfl; have q0c5 := hSw.cell 5 rfl; have q0c6 := hSw.cell 6 rfl; have q0c7 := hSw.cell 7 rfl; have q0c8 := hSw.cell 8 rfl; go_simp; try with_reducible rfl)
      try simp only [Act.put, List.setIfInBounds_toArray, List.set_cons_zero, List.set_cons_succ]
      change wpAnyH _ _ _ _ _ 8 #[true, true, true, false, false, false, false, false, false, false, false] _ _
      refine heldTake (i := 3) (d := some 22) (v := ?v3_4) rfl rfl (by kernel_rfl) (by kernel_rfl) (by kernel_rfl) (fun _ _ _ h => h) (by rfl) ?hy3_4 (by assumption) ?r3_4
      case hy3_4 => (intro w hSw; (try dsimp only at hSw); go_simp; try with_reducible rfl)
      try simp only [Act.put, List.setIfInBounds_toArray, List.set_cons_zero, List.set_cons_succ]
      change wpAnyH _ _ _ _ _ 7 #[true, true, true, true, false, false, false, false, false, false, false] _ _
      refine heldTake (i := 4) (d := some 23) (v := ?v4_5) rfl rfl (by kernel_rfl) (by kernel_rfl) (by kernel_rfl) (fun _ _ _ h => h) (by rfl) ?hy4_5 (by assumption) ?r4_5
      case hy4_5 => (intro w hSw; (try dsimp only at hSw); go_simp; try with_reducible rfl)
      try simp only [Act.put, List.setIfInBounds_toArray, List.set_cons_zero, List.set_cons_succ]
      change wpAnyH _ _ _ _ _ 6 #[true, true, true, true, true, false, false, false, false, false, false] _ _
      refine heldTake (i := 5) (d := some 24) (v := ?v5_6) rfl rfl (by kernel_rfl) (by kernel_rfl) (by kernel_rfl) (fun _ _ _ h => h) (by rfl) ?hy5_6 (by assumption) ?r5_6
      case hy5_6 => (intro w hSw; (try dsimp only at hSw); go_simp; try with_reducible rfl)
      try simp only [Act.put, List.setIfInBounds_toArray, List.set_cons_zero, List.set_cons_succ]
      change wpAnyH _ _ _ _ _ 5 #[true, true, true, true, true, true, false, false, false, false, false] _ _
      refine heldTake (i := 6) (d := some 25) (v := ?v6_7) rfl rfl (by kernel_rfl) (by kernel_rfl) (by kernel_rfl) (fun _ _ _ h => h) (by rfl) ?hy6_7 (by assumption) ?r6_7
      case hy6_7 => (intro w5 hSw; have q0c0 := hSw.cell 0 rfl; have q0c1 := hSw.cell 1 rfl; have q0c2 := hSw.cell 2 rfl; have q0c3 := hSw.cell 3 rfl; have q0c4 := hSw.cell 4 rfl; have q0c5 := hSw.cell 5 rfl; have q0c6 := hSw.cell 6 rfl; have q0c7 := hSw.cell 7 rfl; have q0c8 := hSw.cell 8 rfl; go_simp; try with_reducible rfl)
      try simp only [Act.put, List.setIfInBounds_toArray, List.set_cons_zero, List.set_cons_succ]
      change wpAnyH _ _ _ _ _ 4 #[true, true, true, true, true, true, true, false, false, false, false] _ _
      refine wpAnyH_ready (rs := [7]) (by kernel_rfl) (by simp) ?_
      refine AllReadyH.cons rfl (fun K hK => ?_) AllReadyH.nil
      go_simp
      refine (HTX.out _).mono ?_
      rintro e z9 ⟨rfl, hz9⟩
      go_wp2
      refine hK.out _ _ (hHeld.upd hz9 (by simp)) (fun hHeld => ?_)
      clear hK K
      try simp only [Act.put, List.setIfInBounds_toArray, List.set_cons_zero, List.set_cons_succ]
      change wpAnyH _ _ _ _ _ 3 #[true, true, true, true, true, true, true, true, false, false, false] _ _
      refine heldTake (i := 8) (d := some 27) (v := ?v8_9) rfl rfl (by kernel_rfl) (by kernel_rfl) (by kernel_rfl) (fun _ _ _ h => h) (by rfl) ?hy8_9 (by assumption) ?r8_9
      case hy8_9 => (intro w hSw; (try dsimp only at hSw); go_simp; try with_reducible rfl)
      try simp only [Act.put, List.setIfInBounds_toArray, List.set_cons_zero, List.set_cons_succ]
      change wpAnyH _ _ _ _ _ 2 #[true, true, true, true, true, true, true, true, true, false, false] _ _
      refine heldTake (i := 9) (d := some 28) (v := ?v9_10) rfl rfl (by kernel_rfl) (by kernel_rfl) (by kernel_rfl) (fun _ _ _ h => h) (by rfl) ?hy9_10 (by assumption) ?r9_10
      case hy9_10 => (intro w hSw; (try dsimp only at hSw); go_simp; try with_reducible rfl)
      try simp only [Act.put, List.setIfInBounds_toArray, List.set_cons_zero, List.set_cons_succ]
      change wpAnyH _ _ _ _ _ 1 #[true, true, true, true, true, true, true, true, true, true, false] _ _
      refine heldTake (i := 10) (d := some 3) (v := ?v10_11) rfl rfl (by kernel_rfl) (by kernel_rfl) (by kernel_rfl) (fun _ _ _ h => h) (by rfl) ?hy10_11 (by assumption) ?r10_11
      case hy10_11 => (intro w hSw; (try dsimp only at hSw); go_simp; try with_reducible rfl)
      try simp only [Act.put, List.setIfInBounds_toArray, List.set_cons_zero, List.set_cons_succ]
      change wpAnyH _ _ _ _ _ 0 #[true, true, true, true, true, true, true, true, true, true, true] _ _
      refine wpAnyH_done (by kernel_rfl) ?_ 0
      have HU9 := Lib.hid ((HU3.out.drew).then hz9)
      clear hHeld hz9
      go_wp2
      go_ret
      exact ⟨by rw [HV.out, HX4.out]; rfl, HU9.out⟩
    · as_aux_lemma =>
      obtain ⟨TX, hTX⟩ : ∃ TX, (NodN.mk k m t D).text = TX := ⟨_, rfl⟩
      rw [hTX] at HTX
      have HA0 : Hid (argsE ⟨4, p, q, k, m, t, D, n, .slice va l.length vc, l⟩ = [bytesOf p, TX]) := Lib.hid (by unfold argsE; rw [← hTX]; rfl)
      rw [HA0.out] at HV HBD
      clear HA0
      have c0 := HB3.out.cell 0 rfl
      have c1 := HB3.out.cell 1 rfl
      have c2 := HB3.out.cell 2 rfl
      have c3 := HB3.out.cell 3 rfl
      have c4 := HB3.out.cell 4 rfl
      have c5 := HB3.out.cell 5 rfl
      have c6 := HB3.out.cell 6 rfl
      have c7 := HB3.out.cell 7 rfl
      have c8 := HB3.out.cell 8 rfl
      clear hTX
      have hpl : (bytesOf p).length ≤ 131000 := (HBD.out _ (by simp)).1
      have hsp := strOf_bytesOf p
      have htl : TX.length ≤ 131000 := (HBD.out TX (by simp)).1
      have ha1 := run_addS (({ data := #[9] } : ByteArray)) (p) ([9]) (bytesOf p) rfl hsp (by simp; omega)
      have ha2 := run_addS (strOf ([9] ++ bytesOf p)) (({ data := #[9] } : ByteArray)) ([9] ++ bytesOf p) ([9]) rfl rfl (by simp; omega)
      have ha3 := run_addS (strOf ([9] ++ bytesOf p ++ [9])) (strOf TX) ([9] ++ bytesOf p ++ [9]) (TX) rfl rfl (by simp; omega)
      have ha4 := run_addS (strOf nm) (strOf ([9] ++ bytesOf p ++ [9] ++ TX)) (nm) ([9] ++ bytesOf p ++ [9] ++ TX) rfl rfl (by simp; omega)
      have HJ : Hid (joinC 9 (nm :: [bytesOf p, TX]) = nm ++ ([9] ++ bytesOf p ++ [9] ++ TX)) := Lib.hid (by simp [joinC])
      obtain ⟨X1, hX1⟩ : ∃ X, strOf ([9] ++ bytesOf p) = X := ⟨_, rfl⟩
      obtain ⟨X2, hX2⟩ : ∃ X, strOf ([9] ++ bytesOf p ++ [9]) = X := ⟨_, rfl⟩
      obtain ⟨X3, hX3⟩ : ∃ X, strOf ([9] ++ bytesOf p ++ [9] ++ TX) = X := ⟨_, rfl⟩
      obtain ⟨X4, hX4⟩ : ∃ X, strOf (nm ++ ([9] ++ bytesOf p ++ [9] ++ TX)) = X := ⟨_, rfl⟩
      have HX4 : Hid (strOf (joinC 9 (nm :: [bytesOf p, TX])) = X4) := Lib.hid (by rw [HJ.out, hX4])
      rw [hX1] at ha1 ha2
      rw [hX2] at ha2 ha3
      rw [hX3] at ha3 ha4
      rw [hX4] at ha4
      clear hX1 hX2 hX3 hX4 HJ
      obtain ⟨SNM, hSNM⟩ : ∃ X, strOf nm = X := ⟨_, rfl⟩
      obtain ⟨STX, hSTX⟩ : ∃ X, strOf TX = X := ⟨_, rfl⟩
      rw [hSNM] at ha4 ⊢
      rw [hSTX] at ha3 HTX
      clear hSNM hSTX
      go_upto_region 7 with fail
      clear c0 c1 c2 c3 c4 c5 c6 c7 c8
      obtain ⟨w3, hw3⟩ : ∃ w3, w3 = z1 := ⟨_, rfl⟩
      clear hw3
      refine wp_region_held_drew (S := fun w' => Blk w' q0 [.int .i64 4, .string p, .string q, .int .i64 k, .int .i64 m, .int .u32 (t : Nat), .string D, .int .i64 n, .slice va len vc] 27) (by kernel_rfl) (HB3.out.upd ((Upd.refl [] _).drew) (by simp)) (fun hHeld => ?_)
      change wpAnyH _ _ _ _ _ 11 #[false, false, false, false, false, false, false, false, false, false, false] _ _
      refine heldTake (i := 0) (d := some 19) (v := ?v0_12) rfl rfl (by kernel_rfl) (by kernel_rfl) (by kernel_rfl) (fun _ _ _ h => h) (by rfl) ?hy0_12 (by assumption) ?r0_12
      case hy0_12 => (intro w hSw; (try dsimp only at hSw); go_simp; try with_reducible rfl)
      try simp only [Act.put, List.setIfInBounds_toArray, List.set_cons_zero, List.set_cons_succ]
      change wpAnyH _ _ _ _ _ 10 #[true, false, false, false, false, false, false, false, false, false, false] _ _
      refine heldTake (i := 1) (d := some 20) (v := ?v1_13) rfl rfl (by kernel_rfl) (by kernel_rfl) (by kernel_rfl) (fun _ _ _ h => h) (by rfl) ?hy1_13 (by assumption) ?r1_13
      case hy1_13 => (intro w hSw; (try dsimp only at hSw); go_simp; try with_reducible rfl)
      try simp only [Act.put, List.setIfInBounds_toArray, List.set_cons_zero, List.set_cons_succ]
      change wpAnyH _ _ _ _ _ 9 #[true, true, false, false, false, false, false, false, false, false, false] _ _
      refine heldTake (i := 2) (d := some 21) (v := ?v2_14) rfl rfl (by kernel_rfl) (by kernel_rfl) (by kernel_rfl) (fun _ _ _ h => h) (by rfl) ?hy2_14 (by assumption) ?r2_14
      case hy2_14 => (intro w5 hSw; have q0c0 := hSw.cell 0 rfl; have q0c1 := hSw.cell 1 rfl; have q0c2 := hSw.cell 2 rfl; have q0c3 := hSw.cell 3 rfl; have q0c4 := hSw.cell 4 rfl; have q0c5 := hSw.cell 5 rfl; have q0c6 := hSw.cell 6 rfl; have q0c7 := hSw.cell 7 rfl; have q0c8 := hSw.cell 8 rfl; go_simp; try with_reducible rfl)
      try simp only [Act.put, List.setIfInBounds_toArray, List.set_cons_zero, List.set_cons_succ]
      change wpAnyH _ _ _ _ _ 8 #[true, true, true, false, false, false, false, false, false, false, false] _ _
      refine heldTake (i := 3) (d := some 22) (v := ?v3_15) rfl rfl (by kernel_rfl) (by kernel_rfl) (by kernel_rfl) (fun _ _ _ h => h) (by rfl) ?hy3_15 (by assumption) ?r3_15
      case hy3_15 => (intro w hSw; (try dsimp only at hSw); go_simp; try with_reducible rfl)
      try simp only [Act.put, List.setIfInBounds_toArray, List.set_cons_zero, List.set_cons_succ]
      change wpAnyH _ _ _ _ _ 7 #[true, true, true, true, false, false, false, false, false, false, false] _ _
      refine heldTake (i := 4) (d := some 23) (v := ?v4_16) rfl rfl (by kernel_rfl) (by kernel_rfl) (by kernel_rfl) (fun _ _ _ h => h) (by rfl) ?hy4_16 (by assumption) ?r4_16
      case hy4_16 => (intro w hSw; (try dsimp only at hSw); go_simp; try with_reducible rfl)
      try simp only [Act.put, List.setIfInBounds_toArray, List.set_cons_zero, List.set_cons_succ]
      change wpAnyH _ _ _ _ _ 6 #[true, true, true, true, true, false, false, false, false, false, false] _ _
      refine heldTake (i := 5) (d := some 24) (v := ?v5_17) rfl rfl (by kernel_rfl) (by kernel_rfl) (by kernel_rfl) (fun _ _ _ h => h) (by rfl) ?hy5_17 (by assumption) ?r5_17
      case hy5_17 => (intro w hSw; (try dsimp only at hSw); go_simp; try with_reducible rfl)
      try simp only [Act.put, List.setIfInBounds_toArray, List.set_cons_zero, List.set_cons_succ]
      change wpAnyH _ _ _ _ _ 5 #[true, true, true, true, true, true, false, false, false, false, false] _ _
      refine heldTake (i := 6) (d := some 25) (v := ?v6_18) rfl rfl (by kernel_rfl) (by kernel_rfl) (by kernel_rfl) (fun _ _ _ h => h) (by rfl) ?hy6_18 (by assumption) ?r6_18
      case hy6_18 => (intro w5 hSw; have q0c0 := hSw.cell 0 rfl; have q0c1 := hSw.cell 1 rfl; have q0c2 := hSw.cell 2 rfl; have q0c3 := hSw.cell 3 rfl; have q0c4 := hSw.cell 4 rfl; have q0c5 := hSw.cell 5 rfl; have q0c6 := hSw.cell 6 rfl; have q0c7 := hSw.cell 7 rfl; have q0c8 := hSw.cell 8 rfl; go_simp; try with_reducible rfl)
      try simp only [Act.put, List.setIfInBounds_toArray, List.set_cons_zero, List.set_cons_succ]
      change wpAnyH _ _ _ _ _ 4 #[true, true, true, true, true, true, true, false, false, false, false] _ _
      refine wpAnyH_ready (rs := [7]) (by kernel_rfl) (by simp) ?_
      refine AllReadyH.cons rfl (fun K hK => ?_) AllReadyH.nil
      go_simp
      refine (HTX.out _).mono ?_
      rintro e z9 ⟨rfl, hz9⟩
      go_wp2
      refine hK.out _ _ (hHeld.upd hz9 (by simp)) (fun hHeld => ?_)
      clear hK K
      try simp only [Act.put, List.setIfInBounds_toArray, List.set_cons_zero, List.set_cons_succ]
      change wpAnyH _ _ _ _ _ 3 #[true, true, true, true, true, true, true, true, false, false, false] _ _
      refine heldTake (i := 8) (d := some 27) (v := ?v8_20) rfl rfl (by kernel_rfl) (by kernel_rfl) (by kernel_rfl) (fun _ _ _ h => h) (by rfl) ?hy8_20 (by assumption) ?r8_20
      case hy8_20 => (intro w hSw; (try dsimp only at hSw); go_simp; try with_reducible rfl)
      try simp only [Act.put, List.setIfInBounds_toArray, List.set_cons_zero, List.set_cons_succ]
      change wpAnyH _ _ _ _ _ 2 #[true, true, true, true, true, true, true, true, true, false, false] _ _
      refine heldTake (i := 9) (d := some 28) (v := ?v9_21) rfl rfl (by kernel_rfl) (by kernel_rfl) (by kernel_rfl) (fun _ _ _ h => h) (by rfl) ?hy9_21 (by assumption) ?r9_21
      case hy9_21 => (intro w hSw; (try dsimp only at hSw); go_simp; try with_reducible rfl)
      try simp only [Act.put, List.setIfInBounds_toArray, List.set_cons_zero, List.set_cons_succ]
      change wpAnyH _ _ _ _ _ 1 #[true, true, true, true, true, true, true, true, true, true, false] _ _
      refine heldTake (i := 10) (d := some 3) (v := ?v10_22) rfl rfl (by kernel_rfl) (by kernel_rfl) (by kernel_rfl) (fun _ _ _ h => h) (by rfl) ?hy10_22 (by assumption) ?r10_22
      case hy10_22 => (intro w hSw; (try dsimp only at hSw); go_simp; try with_reducible rfl)
      try simp only [Act.put, List.setIfInBounds_toArray, List.set_cons_zero, List.set_cons_succ]
      change wpAnyH _ _ _ _ _ 0 #[true, true, true, true, true, true, true, true, true, true, true] _ _
      refine wpAnyH_done (by kernel_rfl) ?_ 0
      have HU9 := Lib.hid ((HU3.out.drew).then hz9)
      clear hHeld hz9
      go_wp2
      go_ret
      exact ⟨by rw [HV.out, HX4.out]; rfl, HU9.out⟩
    · as_aux_lemma =>
      have HA0 : Hid (argsE ⟨2, p, q, k, m, t, D, n, .slice va l.length vc, l⟩ = [bytesOf p]) := Lib.hid (by unfold argsE; rfl)
      rw [HA0.out] at HV HBD
      clear HA0
      have c0 := HB3.out.cell 0 rfl
      have c1 := HB3.out.cell 1 rfl
      have c2 := HB3.out.cell 2 rfl
      have c3 := HB3.out.cell 3 rfl
      have c4 := HB3.out.cell 4 rfl
      have c5 := HB3.out.cell 5 rfl
      have c6 := HB3.out.cell 6 rfl
      have c7 := HB3.out.cell 7 rfl
      have c8 := HB3.out.cell 8 rfl
      have hpl : (bytesOf p).length ≤ 131000 := (HBD.out _ (by simp)).1
      have hsp := strOf_bytesOf p
      obtain ⟨SNM, hSNM⟩ : ∃ X, strOf nm = X := ⟨_, rfl⟩
      rw [hSNM]
      obtain ⟨X0, hX0⟩ : ∃ X, strOf ([9] ++ bytesOf p) = X := ⟨_, rfl⟩
      have ha0 := run_addS (({ data := #[9] } : ByteArray)) (p) ([9]) (bytesOf p) rfl hsp (by simp <;> omega)
      rw [hX0] at ha0
      obtain ⟨X1, hX1⟩ : ∃ X, strOf (nm ++ ([9] ++ bytesOf p)) = X := ⟨_, rfl⟩
      have ha1 := run_addS SNM X0 nm ([9] ++ bytesOf p) hSNM hX0 (by simp; omega)
      rw [hX1] at ha1
      have HXF : Hid (strOf (joinC 9 (nm :: [bytesOf p])) = X1) := Lib.hid (by rw [← hX1]; simp [joinC])
      clear hX0 hX1
      clear hSNM hsp
      go_wp2
      go_ret
      exact ⟨by rw [HV.out, HXF.out]; rfl, HU3.out⟩
    · as_aux_lemma =>
      have HA0 : Hid (argsE ⟨3, p, q, k, m, t, D, n, .slice va l.length vc, l⟩ = [bytesOf p, bytesOf q]) := Lib.hid (by unfold argsE; rfl)
      rw [HA0.out] at HV HBD
      clear HA0
      have c0 := HB3.out.cell 0 rfl
      have c1 := HB3.out.cell 1 rfl
      have c2 := HB3.out.cell 2 rfl
      have c3 := HB3.out.cell 3 rfl
      have c4 := HB3.out.cell 4 rfl
      have c5 := HB3.out.cell 5 rfl
      have c6 := HB3.out.cell 6 rfl
      have c7 := HB3.out.cell 7 rfl
      have c8 := HB3.out.cell 8 rfl
      have hpl : (bytesOf p).length ≤ 131000 := (HBD.out _ (by simp)).1
      have hsp := strOf_bytesOf p
      have hql : (bytesOf q).length ≤ 131000 := (HBD.out _ (by simp)).1
      have hsq := strOf_bytesOf q
      obtain ⟨SNM, hSNM⟩ : ∃ X, strOf nm = X := ⟨_, rfl⟩
      rw [hSNM]
      obtain ⟨X0, hX0⟩ : ∃ X, strOf ([9] ++ bytesOf p) = X := ⟨_, rfl⟩
      have ha0 := run_addS (({ data := #[9] } : ByteArray)) (p) ([9]) (bytesOf p) rfl hsp (by simp <;> omega)
      rw [hX0] at ha0
      obtain ⟨X1, hX1⟩ : ∃ X, strOf (([9] ++ bytesOf p) ++ [9]) = X := ⟨_, rfl⟩
      have ha1 := run_addS (X0) (({ data := #[9] } : ByteArray)) (([9] ++ bytesOf p)) ([9]) hX0 rfl (by simp <;> omega)
      rw [hX1] at ha1
      obtain ⟨X2, hX2⟩ : ∃ X, strOf ((([9] ++ bytesOf p) ++ [9]) ++ bytesOf q) = X := ⟨_, rfl⟩
      have ha2 := run_addS (X1) (q) ((([9] ++ bytesOf p) ++ [9])) (bytesOf q) hX1 hsq (by simp <;> omega)
      rw [hX2] at ha2
      obtain ⟨X3, hX3⟩ : ∃ X, strOf (nm ++ ([9] ++ bytesOf p ++ [9] ++ bytesOf q)) = X := ⟨_, rfl⟩
      have ha3 := run_addS SNM X2 nm ([9] ++ bytesOf p ++ [9] ++ bytesOf q) hSNM (by rw [← hX2]) (by simp; omega)
      rw [hX3] at ha3
      have HXF : Hid (strOf (joinC 9 (nm :: [bytesOf p, bytesOf q])) = X3) := Lib.hid (by rw [← hX3]; simp [joinC])
      clear hX0 hX1 hX2 hX3
      clear hSNM hsp hsq
      go_wp2
      go_ret
      exact ⟨by rw [HV.out, HXF.out]; rfl, HU3.out⟩
    · as_aux_lemma =>
      have hn5 : 0 ≤ n ∧ n ≤ 3 := by have := HMA.out; unfold mayE at this; simpa using this
      obtain rfl | rfl | rfl | rfl : n = 0 ∨ n = 1 ∨ n = 2 ∨ n = 3 := by omega
      · clear hn5
        have HA0 : Hid (argsE ⟨5, p, q, k, m, t, D, 0, .slice va l.length vc, l⟩ = [[115, 107, 105, 112]]) := Lib.hid (by unfold argsE; rfl)
        rw [HA0.out] at HV HBD
        clear HA0
        have c0 := HB3.out.cell 0 rfl
        have c1 := HB3.out.cell 1 rfl
        have c2 := HB3.out.cell 2 rfl
        have c3 := HB3.out.cell 3 rfl
        have c4 := HB3.out.cell 4 rfl
        have c5 := HB3.out.cell 5 rfl
        have c6 := HB3.out.cell 6 rfl
        have c7 := HB3.out.cell 7 rfl
        have c8 := HB3.out.cell 8 rfl
        have k7 := (HB3.out.alloc (.cells #[.string { data := #[115, 107, 105, 112] }, .string { data := #[108, 101, 102, 116] }, .string { data := #[114, 105, 103, 104, 116] }, .string { data := #[110, 101, 119, 101, 114] }] 9)).cell 7 rfl
        have hq0l := HB3.out.lt
        obtain ⟨SNM, hSNM⟩ : ∃ X, strOf nm = X := ⟨_, rfl⟩
        rw [hSNM]
        obtain ⟨X0, hX0⟩ : ∃ X, strOf ([9] ++ [115, 107, 105, 112]) = X := ⟨_, rfl⟩
        have ha0 := run_addS (({ data := #[9] } : ByteArray)) (({ data := #[115, 107, 105, 112] } : ByteArray)) ([9]) ([115, 107, 105, 112]) rfl rfl (by simp <;> omega)
        rw [hX0] at ha0
        obtain ⟨X1, hX1⟩ : ∃ X, strOf (nm ++ ([9] ++ [115, 107, 105, 112])) = X := ⟨_, rfl⟩
        have ha1 := run_addS SNM X0 nm ([9] ++ [115, 107, 105, 112]) hSNM hX0 (by simp; omega)
        rw [hX1] at ha1
        have HXF : Hid (strOf (joinC 9 (nm :: [[115, 107, 105, 112]])) = X1) := Lib.hid (by rw [← hX1]; simp [joinC])
        clear hX0 hX1
        clear hSNM
        go_wp2
        go_ret
        exact ⟨by rw [HV.out, HXF.out]; rfl, HU3.out.alloc _⟩
      · clear hn5
        have HA0 : Hid (argsE ⟨5, p, q, k, m, t, D, 1, .slice va l.length vc, l⟩ = [[108, 101, 102, 116]]) := Lib.hid (by unfold argsE; rfl)
        rw [HA0.out] at HV HBD
        clear HA0
        have c0 := HB3.out.cell 0 rfl
        have c1 := HB3.out.cell 1 rfl
        have c2 := HB3.out.cell 2 rfl
        have c3 := HB3.out.cell 3 rfl
        have c4 := HB3.out.cell 4 rfl
        have c5 := HB3.out.cell 5 rfl
        have c6 := HB3.out.cell 6 rfl
        have c7 := HB3.out.cell 7 rfl
        have c8 := HB3.out.cell 8 rfl
        have k7 := (HB3.out.alloc (.cells #[.string { data := #[115, 107, 105, 112] }, .string { data := #[108, 101, 102, 116] }, .string { data := #[114, 105, 103, 104, 116] }, .string { data := #[110, 101, 119, 101, 114] }] 9)).cell 7 rfl
        have hq0l := HB3.out.lt
        obtain ⟨SNM, hSNM⟩ : ∃ X, strOf nm = X := ⟨_, rfl⟩
        rw [hSNM]
        obtain ⟨X0, hX0⟩ : ∃ X, strOf ([9] ++ [108, 101, 102, 116]) = X := ⟨_, rfl⟩
        have ha0 := run_addS (({ data := #[9] } : ByteArray)) (({ data := #[108, 101, 102, 116] } : ByteArray)) ([9]) ([108, 101, 102, 116]) rfl rfl (by simp <;> omega)
        rw [hX0] at ha0
        obtain ⟨X1, hX1⟩ : ∃ X, strOf (nm ++ ([9] ++ [108, 101, 102, 116])) = X := ⟨_, rfl⟩
        have ha1 := run_addS SNM X0 nm ([9] ++ [108, 101, 102, 116]) hSNM hX0 (by simp; omega)
        rw [hX1] at ha1
        have HXF : Hid (strOf (joinC 9 (nm :: [[108, 101, 102, 116]])) = X1) := Lib.hid (by rw [← hX1]; simp [joinC])
        clear hX0 hX1
        clear hSNM
        go_wp2
        go_ret
        exact ⟨by rw [HV.out, HXF.out]; rfl, HU3.out.alloc _⟩
      · clear hn5
        have HA0 : Hid (argsE ⟨5, p, q, k, m, t, D, 2, .slice va l.length vc, l⟩ = [[114, 105, 103, 104, 116]]) := Lib.hid (by unfold argsE; rfl)
        rw [HA0.out] at HV HBD
        clear HA0
        have c0 := HB3.out.cell 0 rfl
        have c1 := HB3.out.cell 1 rfl
        have c2 := HB3.out.cell 2 rfl
        have c3 := HB3.out.cell 3 rfl
        have c4 := HB3.out.cell 4 rfl
        have c5 := HB3.out.cell 5 rfl
        have c6 := HB3.out.cell 6 rfl
        have c7 := HB3.out.cell 7 rfl
        have c8 := HB3.out.cell 8 rfl
        have k7 := (HB3.out.alloc (.cells #[.string { data := #[115, 107, 105, 112] }, .string { data := #[108, 101, 102, 116] }, .string { data := #[114, 105, 103, 104, 116] }, .string { data := #[110, 101, 119, 101, 114] }] 9)).cell 7 rfl
        have hq0l := HB3.out.lt
        obtain ⟨SNM, hSNM⟩ : ∃ X, strOf nm = X := ⟨_, rfl⟩
        rw [hSNM]
        obtain ⟨X0, hX0⟩ : ∃ X, strOf ([9] ++ [114, 105, 103, 104, 116]) = X := ⟨_, rfl⟩
        have ha0 := run_addS (({ data := #[9] } : ByteArray)) (({ data := #[114, 105, 103, 104, 116] } : ByteArray)) ([9]) ([114, 105, 103, 104, 116]) rfl rfl (by simp <;> omega)
        rw [hX0] at ha0
        obtain ⟨X1, hX1⟩ : ∃ X, strOf (nm ++ ([9] ++ [114, 105, 103, 104, 116])) = X := ⟨_, rfl⟩
        have ha1 := run_addS SNM X0 nm ([9] ++ [114, 105, 103, 104, 116]) hSNM hX0 (by simp; omega)
        rw [hX1] at ha1
        have HXF : Hid (strOf (joinC 9 (nm :: [[114, 105, 103, 104, 116]])) = X1) := Lib.hid (by rw [← hX1]; simp [joinC])
        clear hX0 hX1
        clear hSNM
        go_wp2
        go_ret
        exact ⟨by rw [HV.out, HXF.out]; rfl, HU3.out.alloc _⟩
      · clear hn5
        have HA0 : Hid (argsE ⟨5, p, q, k, m, t, D, 3, .slice va l.length vc, l⟩ = [[110, 101, 119, 101, 114]]) := Lib.hid (by unfold argsE; rfl)
        rw [HA0.out] at HV HBD
        clear HA0
        have c0 := HB3.out.cell 0 rfl
        have c1 := HB3.out.cell 1 rfl
        have c2 := HB3.out.cell 2 rfl
        have c3 := HB3.out.cell 3 rfl
        have c4 := HB3.out.cell 4 rfl
        have c5 := HB3.out.cell 5 rfl
        have c6 := HB3.out.cell 6 rfl
        have c7 := HB3.out.cell 7 rfl
        have c8 := HB3.out.cell 8 rfl
        have k7 := (HB3.out.alloc (.cells #[.string { data := #[115, 107, 105, 112] }, .string { data := #[108, 101, 102, 116] }, .string { data := #[114, 105, 103, 104, 116] }, .string { data := #[110, 101, 119, 101, 114] }] 9)).cell 7 rfl
        have hq0l := HB3.out.lt
        obtain ⟨SNM, hSNM⟩ : ∃ X, strOf nm = X := ⟨_, rfl⟩
        rw [hSNM]
        obtain ⟨X0, hX0⟩ : ∃ X, strOf ([9] ++ [110, 101, 119, 101, 114]) = X := ⟨_, rfl⟩
        have ha0 := run_addS (({ data := #[9] } : ByteArray)) (({ data := #[110, 101, 119, 101, 114] } : ByteArray)) ([9]) ([110, 101, 119, 101, 114]) rfl rfl (by simp <;> omega)
        rw [hX0] at ha0
        obtain ⟨X1, hX1⟩ : ∃ X, strOf (nm ++ ([9] ++ [110, 101, 119, 101, 114])) = X := ⟨_, rfl⟩
        have ha1 := run_addS SNM X0 nm ([9] ++ [110, 101, 119, 101, 114]) hSNM hX0 (by simp; omega)
        rw [hX1] at ha1
        have HXF : Hid (strOf (joinC 9 (nm :: [[110, 101, 119, 101, 114]])) = X1) := Lib.hid (by rw [← hX1]; simp [joinC])
        clear hX0 hX1
        clear hSNM
        go_wp2
        go_ret
        exact ⟨by rw [HV.out, HXF.out]; rfl, HU3.out.alloc _⟩
    · as_aux_lemma =>
      have hn5 : -1 ≤ n ∧ n ≤ 100000 := by have := HMA.out; unfold mayE at this; simpa using this
      by_cases hn0 : n < 0
      · obtain rfl : n = -1 := by omega
        have HA0 : Hid (argsE ⟨11, p, q, k, m, t, D, -1, .slice va l.length vc, l⟩ = [[45, 49]]) := Lib.hid (by simp [argsE, decZ, decL])
        rw [HA0.out] at HV HBD
        clear HA0
        have c0 := HB3.out.cell 0 rfl
        have c1 := HB3.out.cell 1 rfl
        have c2 := HB3.out.cell 2 rfl
        have c3 := HB3.out.cell 3 rfl
        have c4 := HB3.out.cell 4 rfl
        have c5 := HB3.out.cell 5 rfl
        have c6 := HB3.out.cell 6 rfl
        have c7 := HB3.out.cell 7 rfl
        have c8 := HB3.out.cell 8 rfl
        obtain ⟨SNM, hSNM⟩ : ∃ X, strOf nm = X := ⟨_, rfl⟩
        rw [hSNM]
        obtain ⟨X0, hX0⟩ : ∃ X, strOf (nm ++ [9]) = X := ⟨_, rfl⟩
        have ha0 := run_addS (SNM) (({ data := #[9] } : ByteArray)) (nm) ([9]) hSNM rfl (by simp <;> omega)
        rw [hX0] at ha0
        obtain ⟨X1, hX1⟩ : ∃ X, strOf ((nm ++ [9]) ++ [45, 49]) = X := ⟨_, rfl⟩
        have ha1 := run_addS (X0) (({ data := #[45, 49] } : ByteArray)) ((nm ++ [9])) ([45, 49]) hX0 rfl (by simp <;> omega)
        rw [hX1] at ha1
        have HXF : Hid (strOf (joinC 9 (nm :: [[45, 49]])) = X1) := Lib.hid (by rw [← hX1]; simp [joinC])
        clear hX0 hX1
        clear hSNM
        go_wp2
        go_ret
        exact ⟨by rw [HV.out, HXF.out]; rfl, HU3.out⟩
      · obtain ⟨N, rfl⟩ : ∃ N : Nat, n = (N : Int) := ⟨n.toNat, by omega⟩
        have hdz : decZ (N : Nat) = decL N := by unfold decZ; rw [if_neg (by omega)]; simp
        have HDC := Lib.hid (fun z => rdec_any N z (by omega))
        obtain ⟨DN, hDN⟩ : ∃ DN, decL N = DN := ⟨_, rfl⟩
        rw [hDN] at HDC
        have HA0 : Hid (argsE ⟨11, p, q, k, m, t, D, (N : Nat), .slice va l.length vc, l⟩ = [DN]) := Lib.hid (by show [decZ (N : Nat)] = [DN]; rw [hdz, hDN])
        rw [HA0.out] at HV HBD
        clear HA0
        have c0 := HB3.out.cell 0 rfl
        have c1 := HB3.out.cell 1 rfl
        have c2 := HB3.out.cell 2 rfl
        have c3 := HB3.out.cell 3 rfl
        have c4 := HB3.out.cell 4 rfl
        have c5 := HB3.out.cell 5 rfl
        have c6 := HB3.out.cell 6 rfl
        have c7 := HB3.out.cell 7 rfl
        have c8 := HB3.out.cell 8 rfl
        clear hDN
        have hdl : DN.length ≤ 131000 := (HBD.out _ (by simp)).1
        obtain ⟨SNM, hSNM⟩ : ∃ X, strOf nm = X := ⟨_, rfl⟩
        rw [hSNM]
        obtain ⟨X0, hX0⟩ : ∃ X, strOf (nm ++ [9]) = X := ⟨_, rfl⟩
        have ha0 := run_addS (SNM) (({ data := #[9] } : ByteArray)) (nm) ([9]) hSNM rfl (by simp <;> omega)
        rw [hX0] at ha0
        obtain ⟨X1, hX1⟩ : ∃ X, strOf ((nm ++ [9]) ++ DN) = X := ⟨_, rfl⟩
        have ha1 := run_addS (X0) (strOf DN) ((nm ++ [9])) (DN) hX0 rfl (by simp <;> omega)
        rw [hX1] at ha1
        have HXF : Hid (strOf (joinC 9 (nm :: [DN])) = X1) := Lib.hid (by rw [← hX1]; simp [joinC])
        clear hX0 hX1
        clear hSNM
        have hN0 : ¬ ((N : Int) < 0) := by omega
        go_wp2_with fail
        refine (HDC.out _).mono ?_
        rintro e z9 ⟨rfl, hz9⟩
        have HU9 := Lib.hid (HU3.out.then hz9)
        clear hz9
        go_wp2
        go_ret
        exact ⟨by rw [HV.out, HXF.out]; rfl, HU9.out⟩
    · as_aux_lemma =>
      have hn5 : -1 ≤ n ∧ n ≤ 100000 := by have := HMA.out; unfold mayE at this; simpa using this
      by_cases hn0 : n < 0
      · obtain rfl : n = -1 := by omega
        have HA0 : Hid (argsE ⟨12, p, q, k, m, t, D, -1, .slice va l.length vc, l⟩ = [[45, 49]]) := Lib.hid (by simp [argsE, decZ, decL])
        rw [HA0.out] at HV HBD
        clear HA0
        have c0 := HB3.out.cell 0 rfl
        have c1 := HB3.out.cell 1 rfl
        have c2 := HB3.out.cell 2 rfl
        have c3 := HB3.out.cell 3 rfl
        have c4 := HB3.out.cell 4 rfl
        have c5 := HB3.out.cell 5 rfl
        have c6 := HB3.out.cell 6 rfl
        have c7 := HB3.out.cell 7 rfl
        have c8 := HB3.out.cell 8 rfl
        obtain ⟨SNM, hSNM⟩ : ∃ X, strOf nm = X := ⟨_, rfl⟩
        rw [hSNM]
        obtain ⟨X0, hX0⟩ : ∃ X, strOf (nm ++ [9]) = X := ⟨_, rfl⟩
        have ha0 := run_addS (SNM) (({ data := #[9] } : ByteArray)) (nm) ([9]) hSNM rfl (by simp <;> omega)
        rw [hX0] at ha0
        obtain ⟨X1, hX1⟩ : ∃ X, strOf ((nm ++ [9]) ++ [45, 49]) = X := ⟨_, rfl⟩
        have ha1 := run_addS (X0) (({ data := #[45, 49] } : ByteArray)) ((nm ++ [9])) ([45, 49]) hX0 rfl (by simp <;> omega)
        rw [hX1] at ha1
        have HXF : Hid (strOf (joinC 9 (nm :: [[45, 49]])) = X1) := Lib.hid (by rw [← hX1]; simp [joinC])
        clear hX0 hX1
        clear hSNM
        go_wp2
        go_ret
        exact ⟨by rw [HV.out, HXF.out]; rfl, HU3.out⟩
      · obtain ⟨N, rfl⟩ : ∃ N : Nat, n = (N : Int) := ⟨n.toNat, by omega⟩
        have hdz : decZ (N : Nat) = decL N := by unfold decZ; rw [if_neg (by omega)]; simp
        have HDC := Lib.hid (fun z => rdec_any N z (by omega))
        obtain ⟨DN, hDN⟩ : ∃ DN, decL N = DN := ⟨_, rfl⟩
        rw [hDN] at HDC
        have HA0 : Hid (argsE ⟨12, p, q, k, m, t, D, (N : Nat), .slice va l.length vc, l⟩ = [DN]) := Lib.hid (by show [decZ (N : Nat)] = [DN]; rw [hdz, hDN])
        rw [HA0.out] at HV HBD
        clear HA0
        have c0 := HB3.out.cell 0 rfl
        have c1 := HB3.out.cell 1 rfl
        have c2 := HB3.out.cell 2 rfl
        have c3 := HB3.out.cell 3 rfl
        have c4 := HB3.out.cell 4 rfl
        have c5 := HB3.out.cell 5 rfl
        have c6 := HB3.out.cell 6 rfl
        have c7 := HB3.out.cell 7 rfl
        have c8 := HB3.out.cell 8 rfl
        clear hDN
        have hdl : DN.length ≤ 131000 := (HBD.out _ (by simp)).1
        obtain ⟨SNM, hSNM⟩ : ∃ X, strOf nm = X := ⟨_, rfl⟩
        rw [hSNM]
        obtain ⟨X0, hX0⟩ : ∃ X, strOf (nm ++ [9]) = X := ⟨_, rfl⟩
        have ha0 := run_addS (SNM) (({ data := #[9] } : ByteArray)) (nm) ([9]) hSNM rfl (by simp <;> omega)
        rw [hX0] at ha0
        obtain ⟨X1, hX1⟩ : ∃ X, strOf ((nm ++ [9]) ++ DN) = X := ⟨_, rfl⟩
        have ha1 := run_addS (X0) (strOf DN) ((nm ++ [9])) (DN) hX0 rfl (by simp <;> omega)
        rw [hX1] at ha1
        have HXF : Hid (strOf (joinC 9 (nm :: [DN])) = X1) := Lib.hid (by rw [← hX1]; simp [joinC])
        clear hX0 hX1
        clear hSNM
        have hN0 : ¬ ((N : Int) < 0) := by omega
        go_wp2_with fail
        refine (HDC.out _).mono ?_
        rintro e z9 ⟨rfl, hz9⟩
        have HU9 := Lib.hid (HU3.out.then hz9)
        clear hz9
        go_wp2
        go_ret
        exact ⟨by rw [HV.out, HXF.out]; rfl, HU9.out⟩
    · as_aux_lemma =>
      have hn5 : -1 ≤ n ∧ n ≤ 100000 := by have := HMA.out; unfold mayE at this; simpa using this
      by_cases hn0 : n < 0
      · obtain rfl : n = -1 := by omega
        have HA0 : Hid (argsE ⟨13, p, q, k, m, t, D, -1, .slice va l.length vc, l⟩ = [[45, 49]]) := Lib.hid (by simp [argsE, decZ, decL])
        rw [HA0.out] at HV HBD
        clear HA0
        have c0 := HB3.out.cell 0 rfl
        have c1 := HB3.out.cell 1 rfl
        have c2 := HB3.out.cell 2 rfl
        have c3 := HB3.out.cell 3 rfl
        have c4 := HB3.out.cell 4 rfl
        have c5 := HB3.out.cell 5 rfl
        have c6 := HB3.out.cell 6 rfl
        have c7 := HB3.out.cell 7 rfl
        have c8 := HB3.out.cell 8 rfl
        obtain ⟨SNM, hSNM⟩ : ∃ X, strOf nm = X := ⟨_, rfl⟩
        rw [hSNM]
        obtain ⟨X0, hX0⟩ : ∃ X, strOf (nm ++ [9]) = X := ⟨_, rfl⟩
        have ha0 := run_addS (SNM) (({ data := #[9] } : ByteArray)) (nm) ([9]) hSNM rfl (by simp <;> omega)
        rw [hX0] at ha0
        obtain ⟨X1, hX1⟩ : ∃ X, strOf ((nm ++ [9]) ++ [45, 49]) = X := ⟨_, rfl⟩
        have ha1 := run_addS (X0) (({ data := #[45, 49] } : ByteArray)) ((nm ++ [9])) ([45, 49]) hX0 rfl (by simp <;> omega)
        rw [hX1] at ha1
        have HXF : Hid (strOf (joinC 9 (nm :: [[45, 49]])) = X1) := Lib.hid (by rw [← hX1]; simp [joinC])
        clear hX0 hX1
        clear hSNM
        go_wp2
        go_ret
        exact ⟨by rw [HV.out, HXF.out]; rfl, HU3.out⟩
      · obtain ⟨N, rfl⟩ : ∃ N : Nat, n = (N : Int) := ⟨n.toNat, by omega⟩
        have hdz : decZ (N : Nat) = decL N := by unfold decZ; rw [if_neg (by omega)]; simp
        have HDC := Lib.hid (fun z => rdec_any N z (by omega))
        obtain ⟨DN, hDN⟩ : ∃ DN, decL N = DN := ⟨_, rfl⟩
        rw [hDN] at HDC
        have HA0 : Hid (argsE ⟨13, p, q, k, m, t, D, (N : Nat), .slice va l.length vc, l⟩ = [DN]) := Lib.hid (by show [decZ (N : Nat)] = [DN]; rw [hdz, hDN])
        rw [HA0.out] at HV HBD
        clear HA0
        have c0 := HB3.out.cell 0 rfl
        have c1 := HB3.out.cell 1 rfl
        have c2 := HB3.out.cell 2 rfl
        have c3 := HB3.out.cell 3 rfl
        have c4 := HB3.out.cell 4 rfl
        have c5 := HB3.out.cell 5 rfl
        have c6 := HB3.out.cell 6 rfl
        have c7 := HB3.out.cell 7 rfl
        have c8 := HB3.out.cell 8 rfl
        clear hDN
        have hdl : DN.length ≤ 131000 := (HBD.out _ (by simp)).1
        obtain ⟨SNM, hSNM⟩ : ∃ X, strOf nm = X := ⟨_, rfl⟩
        rw [hSNM]
        obtain ⟨X0, hX0⟩ : ∃ X, strOf (nm ++ [9]) = X := ⟨_, rfl⟩
        have ha0 := run_addS (SNM) (({ data := #[9] } : ByteArray)) (nm) ([9]) hSNM rfl (by simp <;> omega)
        rw [hX0] at ha0
        obtain ⟨X1, hX1⟩ : ∃ X, strOf ((nm ++ [9]) ++ DN) = X := ⟨_, rfl⟩
        have ha1 := run_addS (X0) (strOf DN) ((nm ++ [9])) (DN) hX0 rfl (by simp <;> omega)
        rw [hX1] at ha1
        have HXF : Hid (strOf (joinC 9 (nm :: [DN])) = X1) := Lib.hid (by rw [← hX1]; simp [joinC])
        clear hX0 hX1
        clear hSNM
        have hN0 : ¬ ((N : Int) < 0) := by omega
        go_wp2_with fail
        refine (HDC.out _).mono ?_
        rintro e z9 ⟨rfl, hz9⟩
        have HU9 := Lib.hid (HU3.out.then hz9)
        clear hz9
        go_wp2
        go_ret
        exact ⟨by rw [HV.out, HXF.out]; rfl, HU9.out⟩
    · as_aux_lemma =>
      have hn5 : l.length ≤ 50 ∧ ∀ x ∈ l, 0 ≤ x ∧ x ≤ 1000 := by have := HMA.out; unfold mayE at this; simpa using this
      have HL5 := Lib.hid hn5
      have hl50 := hn5.1
      clear hn5
      have HA0 : Hid (argsE ⟨14, p, q, k, m, t, D, n, .slice va l.length vc, l⟩ = [listP l]) := Lib.hid (by unfold argsE; rfl)
      rw [HA0.out] at HV HBD
      clear HA0
      have c0 := HB3.out.cell 0 rfl
      have c1 := HB3.out.cell 1 rfl
      have c2 := HB3.out.cell 2 rfl
      have c3 := HB3.out.cell 3 rfl
      have c4 := HB3.out.cell 4 rfl
      have c5 := HB3.out.cell 5 rfl
      have c6 := HB3.out.cell 6 rfl
      have c7 := HB3.out.cell 7 rfl
      have c8 := HB3.out.cell 8 rfl
      rw [HLN.out] at hl50
      obtain ⟨SNM, hSNM⟩ : ∃ X, strOf nm = X := ⟨_, rfl⟩
      rw [hSNM]
      obtain ⟨X0, hX0⟩ : ∃ X, strOf (nm ++ [9]) = X := ⟨_, rfl⟩
      have ha0 := run_addS (SNM) (({ data := #[9] } : ByteArray)) (nm) ([9]) hSNM rfl (by simp <;> omega)
      rw [hX0] at ha0
      have HX0 := Lib.hid hX0
      clear hX0 hSNM
      go_wp2
      go_loopg [3, 4, 5, 80] len (fun gg s3 s4 s5 s80 wr => ∃ i X, i ≤ len ∧ gg = len - i ∧ s80 = .int .i64 (i : Nat) ∧ s3 = .string X ∧ Hid (strOf (nm ++ [9] ++ joinC 44 ((l.take i).map decZ)) = X) ∧ Hid (Upd [] w wr) ∧ Hid (Blk wr q0 [.int .i64 14, .string p, .string q, .int .i64 k, .int .i64 m, .int .u32 (t : Nat), .string D, .int .i64 n, .slice va len vc] 27))
      case atStart => exact ⟨0, X0, Nat.zero_le _, rfl, rfl, rfl, Lib.hid (by rw [← HX0.out]; simp [joinC]), HU3, by assumption⟩
      case round =>
        obtain ⟨i, X, hin, rfl, rfl, rfl, HXX, HUr, HBr⟩ := hrel
        clear c0 c1 c2 c3 c4 c5 c6 c7 c8 ha0
        have k8 := HBr.out.cell 8 rfl
        have hll : (joinC 44 ((l.take i).map decZ)).length ≤ 1000 := by
          have h1 := listP_bd (l := l.take i) (fun x hx => HL5.out.2 x (List.mem_of_mem_take hx)) (by rw [List.length_take]; omega)
          rcases hti : l.take i with _ | ⟨a, r⟩
          · simp [joinC]
          · rw [hti] at h1
            have h2 := h1.1
            unfold listP at h2
            rw [if_neg (by simp)] at h2
            omega
        by_cases hc : i < len
        · have hcz : (i : Int) < (len : Int) := by omega
          have hi1 : i < l.length := by rw [HLN.out]; exact hc
          obtain ⟨b1, o1, rfl, x1⟩ := HVX.out i hi1
          have x1c := HUr.out.keepS x1
          have hw1 : IntKind.i64.wrap ((i : Int) + 1) = ((i + 1 : Nat) : Int) := by rw [IntWalk.i64_in _ (by omega)]; rfl
          have hx := HL5.out.2 l[i] (List.getElem_mem hi1)
          have HTK : Hid ((l.take (i + 1)).map decZ = (l.take i).map decZ ++ [decZ l[i]]) := Lib.hid (by
            rw [List.take_succ_eq_append_getElem hi1, List.map_append]; rfl)
          have HNE : Hid (0 < i → (l.take i).map decZ ≠ []) := Lib.hid (fun h0 h => by
            have h2 : ((l.take i).map decZ).length = 0 := by rw [h]; rfl
            rw [List.length_map, List.length_take] at h2
            omega)
          have HZE : Hid (i = 0 → (l.take i).map decZ = []) := Lib.hid (fun h => by subst h; rfl)
          generalize (l.take i).map decZ = LM at *
          generalize l[i] = x at *
          obtain ⟨N, rfl⟩ : ∃ N : Nat, x = (N : Int) := ⟨x.toNat, by omega⟩
          have HDC := Lib.hid (fun z => rdec_any N z (by omega))
          have hdl := decL_len 6 N (by omega)
          have hdz : decZ (N : Int) = decL N := by unfold decZ; rw [if_neg (by omega)]; simp
          rw [hdz] at HTK
          clear hdz hx
          generalize decL N = DN at *
          by_cases h0 : i = 0
          · obtain ⟨Y, hY⟩ : ∃ Y, strOf (nm ++ [9] ++ joinC 44 LM ++ DN) = Y := ⟨_, rfl⟩
            have ha2 := run_addS X (strOf DN) (nm ++ [9] ++ joinC 44 LM) DN HXX.out rfl (by simp; omega)
            rw [hY] at ha2
            have HE : Hid (strOf (nm ++ [9] ++ joinC 44 ((l.take (i + 1)).map decZ)) = Y) := Lib.hid (by rw [HTK.out, HZE.out h0, ← hY, HZE.out h0]; simp [joinC])
            have hi0 : ¬ (0 : Int) < (i : Int) := by omega
            clear hY h0
            go_wp2_with fail
            refine (HDC.out _).mono ?_
            rintro e z9 ⟨rfl, hz9⟩
            have HU9 := Lib.hid (HUr.out.then hz9)
            have HB9 := Lib.hid (HBr.out.upd hz9 (by simp))
            clear hz9
            go_wp2
            go_roundg (len - (i + 1))
            · exact ⟨i + 1, Y, by omega, rfl, by first | rfl | go_num, rfl, HE, HU9, HB9⟩
            · omega
          · have hi0 : (0 : Int) < (i : Int) := by omega
            obtain ⟨Y1, hY1⟩ : ∃ Y, strOf (nm ++ [9] ++ joinC 44 LM ++ [44]) = Y := ⟨_, rfl⟩
            obtain ⟨Y, hY⟩ : ∃ Y, strOf (nm ++ [9] ++ joinC 44 LM ++ [44] ++ DN) = Y := ⟨_, rfl⟩
            have ha2 := run_addS X ({ data := #[44] } : ByteArray) (nm ++ [9] ++ joinC 44 LM) [44] HXX.out rfl (by simp; omega)
            have ha3 := run_addS Y1 (strOf DN) (nm ++ [9] ++ joinC 44 LM ++ [44]) DN hY1 rfl (by simp; omega)
            rw [hY1] at ha2
            rw [hY] at ha3
            have HE : Hid (strOf (nm ++ [9] ++ joinC 44 ((l.take (i + 1)).map decZ)) = Y) := Lib.hid (by rw [HTK.out, joinC_snoc 44 LM DN (HNE.out (by omega)), ← hY]; simp)
            clear hY hY1
            go_wp2_with fail
            refine (HDC.out _).mono ?_
            rintro e z9 ⟨rfl, hz9⟩
            have HU9 := Lib.hid (HUr.out.then hz9)
            have HB9 := Lib.hid (HBr.out.upd hz9 (by simp))
            clear hz9
            go_wp2
            go_roundg (len - (i + 1))
            · exact ⟨i + 1, Y, by omega, rfl, by first | rfl | go_num, rfl, HE, HU9, HB9⟩
            · omega
        · have hcz : ¬ (i : Int) < (len : Int) := by omega
          obtain rfl : i = len := by omega
          have hte : l.take i = l := List.take_of_length_le (by rw [HLN.out]; exact Nat.le_refl _)
          rw [hte] at hll HXX
          clear hte
          by_cases hz : i = 0
          · obtain ⟨Y, hY⟩ : ∃ Y, strOf (nm ++ [9] ++ joinC 44 (l.map decZ) ++ [45]) = Y := ⟨_, rfl⟩
            have ha2 := run_addS X ({ data := #[45] } : ByteArray) (nm ++ [9] ++ joinC 44 (l.map decZ)) [45] HXX.out rfl (by simp; omega)
            rw [hY] at ha2
            have HE : Hid (strOf (joinC 9 (nm :: [listP l])) = Y) := Lib.hid (by
              have : l = [] := List.eq_nil_of_length_eq_zero (by rw [HLN.out]; exact hz)
              rw [← hY, this]; simp [joinC, listP])
            clear hY hll
            subst hz
            go_wp2
            go_ret
            exact ⟨by rw [HV.out, HE.out]; rfl, HUr.out⟩
          · have hz1 : ¬ (i : Int) = 0 := by omega
            have hz2 : ((i : Int) == 0) = false := by simp; omega
            have HE : Hid (strOf (joinC 9 (nm :: [listP l])) = X) := Lib.hid (by
              have : l ≠ [] := fun h => hz (by rw [← HLN.out, h]; rfl)
              unfold listP; rw [if_neg this, ← HXX.out]; simp [joinC])
            clear hll hz
            go_wp2
            go_ret
            exact ⟨by rw [HV.out, HE.out]; rfl, HUr.out⟩
    · as_aux_lemma =>
      have HA0 : Hid (argsE ⟨6, p, q, k, m, t, D, n, .slice va l.length vc, l⟩ = []) := Lib.hid (by unfold argsE; rfl)
      rw [HA0.out] at HV HBD
      clear HA0
      have c0 := HB3.out.cell 0 rfl
      have c1 := HB3.out.cell 1 rfl
      have c2 := HB3.out.cell 2 rfl
      have c3 := HB3.out.cell 3 rfl
      have c4 := HB3.out.cell 4 rfl
      have c5 := HB3.out.cell 5 rfl
      have c6 := HB3.out.cell 6 rfl
      have c7 := HB3.out.cell 7 rfl
      have c8 := HB3.out.cell 8 rfl
      obtain ⟨SNM, hSNM⟩ : ∃ X, strOf nm = X := ⟨_, rfl⟩
      rw [hSNM]
      have HXF : Hid (strOf (joinC 9 [nm]) = SNM) := Lib.hid (by rw [← hSNM]; rfl)
      clear hSNM
      go_wp2
      go_ret
      exact ⟨by rw [HV.out, HXF.out]; rfl, HU3.out⟩
    · as_aux_lemma =>
      have HA0 : Hid (argsE ⟨7, p, q, k, m, t, D, n, .slice va l.length vc, l⟩ = []) := Lib.hid (by unfold argsE; rfl)
      rw [HA0.out] at HV HBD
      clear HA0
      have c0 := HB3.out.cell 0 rfl
      have c1 := HB3.out.cell 1 rfl
      have c2 := HB3.out.cell 2 rfl
      have c3 := HB3.out.cell 3 rfl
      have c4 := HB3.out.cell 4 rfl
      have c5 := HB3.out.cell 5 rfl
      have c6 := HB3.out.cell 6 rfl
      have c7 := HB3.out.cell 7 rfl
      have c8 := HB3.out.cell 8 rfl
      obtain ⟨SNM, hSNM⟩ : ∃ X, strOf nm = X := ⟨_, rfl⟩
      rw [hSNM]
      have HXF : Hid (strOf (joinC 9 [nm]) = SNM) := Lib.hid (by rw [← hSNM]; rfl)
      clear hSNM
      go_wp2
      go_ret
      exact ⟨by rw [HV.out, HXF.out]; rfl, HU3.out⟩
    · as_aux_lemma =>
      have HA0 : Hid (argsE ⟨8, p, q, k, m, t, D, n, .slice va l.length vc, l⟩ = []) := Lib.hid (by unfold argsE; rfl)
      rw [HA0.out] at HV HBD
      clear HA0
      have c0 := HB3.out.cell 0 rfl
      have c1 := HB3.out.cell 1 rfl
      have c2 := HB3.out.cell 2 rfl
      have c3 := HB3.out.cell 3 rfl
      have c4 := HB3.out.cell 4 rfl
      have c5 := HB3.out.cell 5 rfl
      have c6 := HB3.out.cell 6 rfl
      have c7 := HB3.out.cell 7 rfl
      have c8 := HB3.out.cell 8 rfl
      obtain ⟨SNM, hSNM⟩ : ∃ X, strOf nm = X := ⟨_, rfl⟩
      rw [hSNM]
      have HXF : Hid (strOf (joinC 9 [nm]) = SNM) := Lib.hid (by rw [← hSNM]; rfl)
      clear hSNM
      go_wp2
      go_ret
      exact ⟨by rw [HV.out, HXF.out]; rfl, HU3.out⟩
    · as_aux_lemma =>
      have HA0 : Hid (argsE ⟨9, p, q, k, m, t, D, n, .slice va l.length vc, l⟩ = []) := Lib.hid (by unfold argsE; rfl)
      rw [HA0.out] at HV HBD
      clear HA0
      have c0 := HB3.out.cell 0 rfl
      have c1 := HB3.out.cell 1 rfl
      have c2 := HB3.out.cell 2 rfl
      have c3 := HB3.out.cell 3 rfl
      have c4 := HB3.out.cell 4 rfl
      have c5 := HB3.out.cell 5 rfl
      have c6 := HB3.out.cell 6 rfl
      have c7 := HB3.out.cell 7 rfl
      have c8 := HB3.out.cell 8 rfl
      obtain ⟨SNM, hSNM⟩ : ∃ X, strOf nm = X := ⟨_, rfl⟩
      rw [hSNM]
      have HXF : Hid (strOf (joinC 9 [nm]) = SNM) := Lib.hid (by rw [← hSNM]; rfl)
      clear hSNM
      go_wp2
      go_ret
      exact ⟨by rw [HV.out, HXF.out]; rfl, HU3.out⟩
    · as_aux_lemma =>
      have HA0 : Hid (argsE ⟨10, p, q, k, m, t, D, n, .slice va l.length vc, l⟩ = []) := Lib.hid (by unfold argsE; rfl)
      rw [HA0.out] at HV HBD
      clear HA0
      have c0 := HB3.out.cell 0 rfl
      have c1 := HB3.out.cell 1 rfl
      have c2 := HB3.out.cell 2 rfl
      have c3 := HB3.out.cell 3 rfl
      have c4 := HB3.out.cell 4 rfl
      have c5 := HB3.out.cell 5 rfl
      have c6 := HB3.out.cell 6 rfl
      have c7 := HB3.out.cell 7 rfl
      have c8 := HB3.out.cell 8 rfl
      obtain ⟨SNM, hSNM⟩ : ∃ X, strOf nm = X := ⟨_, rfl⟩
      rw [hSNM]
      have HXF : Hid (strOf (joinC 9 [nm]) = SNM) := Lib.hid (by rw [← hSNM]; rfl)
      clear hSNM
      go_wp2
      go_ret
      exact ⟨by rw [HV.out, HXF.out]; rfl, HU3.out⟩
end Go.Proofs.YtigjingielnaoaaGreatDoor
