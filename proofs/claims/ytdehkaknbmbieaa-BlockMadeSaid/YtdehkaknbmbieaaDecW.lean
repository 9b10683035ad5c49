/- Package swingleref09: bits, Back: walks: what right steps are read as. -/
import Derived.Test.YtdehkaknbmbieaaDecP
import Derived.Test.YtdehkaknbmbieaaRunC
import Derived.Test.YtdehkaknbmbieaaHeldM
namespace Go.Proofs.Ytdehkaknbmbieaa
set_option linter.unusedVariables false
set_option linter.unusedSimpArgs false
set_option linter.unusedSectionVars false
open Go.RowKit
set_option linter.unusedVariables false
set_option linter.unusedSimpArgs false

theorem bits_tab : ∀ s : Fin 19, ([0, 0, 0, 0, 0, 0, 0, 0, 0, 0, 0, 0, 0, 0, 0, 0, 2, 3, 7] : List Nat)[s.val]? = some (bitsN s.val) := by decide +kernel
theorem r9bits_any (s : Nat) (w : World) (hs : s ≤ 18) : Calls Try.prog 63 #[.int .i64 (s : Nat)] w fun e w' => e = .returned (.int .i64 (bitsN s : Nat)) ∧ Upd [] w w' := by
  have h1 := bits_tab ⟨s, by omega⟩
  have hsz : ¬ (18 : Int) < (s : Int) := by omega
  have hsz2 : (s : Int) < 19 := by omega
  have h0 : ¬ (s : Int) < 0 := by omega
  have hB := Blk.new w (i64s [0, 0, 0, 0, 0, 0, 0, 0, 0, 0, 0, 0, 0, 0, 0, 0, 2, 3, 7]) 3
  have hc : (w.alloc (.cells #[.int .i64 0, .int .i64 0, .int .i64 0, .int .i64 0, .int .i64 0, .int .i64 0, .int .i64 0, .int .i64 0, .int .i64 0, .int .i64 0, .int .i64 0, .int .i64 0, .int .i64 0, .int .i64 0, .int .i64 0, .int .i64 0, .int .i64 2, .int .i64 3, .int .i64 7] 3)).cell? ⟨w.heap.size, s, none⟩ = some (.int .i64 (bitsN s : Nat)) := hB.cell s (i64s_get _ s _ h1)
  have hU := (Upd.refl [] w).alloc (.cells (i64s [0, 0, 0, 0, 0, 0, 0, 0, 0, 0, 0, 0, 0, 0, 0, 0, 2, 3, 7]).toArray 3)
  have HU := Lib.hid hU
  generalize bitsN s = b at *
  clear hB hU h1
  go_enter Try.func63, Try.ntmps63
  go_wp2
  go_ret
  exact ⟨rfl, HU.out⟩
theorem bitsN_le (s : Nat) : bitsN s ≤ 7 := by unfold bitsN; split; omega; split; omega; split <;> omega
theorem getD_some9 {p : List Nat} {c : Nat} (h : c < p.length) : p[c]? = some (p.getD c 0) := by
  rw [List.getD_eq_getElem?_getD, List.getElem?_eq_getElem h]
  rfl
def BackP9 (l : List StpD) (w : World) (e : Ending) (w' : World) : Prop := ∃ v, e = .returned (.tuple #[v, .bool true]) ∧ OwnX w w' 3 v (i64s (decS l)) ∧ Upd [] w w'
theorem rep_succ (out : List Nat) (v j : Nat) : i64s (out ++ List.replicate (j + 1) v) = i64s (out ++ List.replicate j v) ++ [.int .i64 (v : Nat)] := by
  rw [List.replicate_succ', ← List.append_assoc]
  simp [i64s]
theorem infoInt9 : (Try.prog.info? 3).map (fun i => (i.zero, i.size, i.bytes)) = some (some (.int .i64 0), 1, 8) := by kernel_rfl
theorem decS_le (l : List StpD) (hk : okAll [] l) : ∀ i, i ≤ l.length → (decS (l.take i)).length ≤ 400
  | 0, _ => by show ([] : List Nat).length ≤ 400; simp
  | i + 1, h => by
    have ho := okAll_at l [] hk i (by omega)
    rw [List.take_succ_eq_append_getElem (by omega), decS_snoc]
    unfold dec1
    rw [List.length_append, List.length_replicate]
    exact ho.room
set_option maxRecDepth 100000 in
set_option maxHeartbeats 12800000 in
theorem rback9_any (l : List StpD) (a : Option Addr) (n cap : Nat) (w : World) (hI : StpIn w a n l) (hn : n ≤ 100000) (hk : okAll [] l) :
    Calls Try.prog 28 #[.slice a n cap] w fun e w' => BackP9 l w e w' := by
  obtain ⟨i0, hi, hz0, hz1, hz2⟩ := info_parts infoInt9
  have HI := Lib.hid hI
  have HLN := Lib.hid hI.len
  have HOA := Lib.hid (okAll_at l [] hk)
  have HDL := Lib.hid (decS_le l hk)
  clear hI hk
  go_enter Try.func28, Try.ntmps28
  go_wp2
  go_loopg [4, 14] 200000 (fun gg s4 s14 wr => ∃ i : Nat, i ≤ n ∧ gg = 200000 - i ∧ s14 = .int .i64 (i : Nat) ∧ Hid (OwnX w wr 3 s4 (i64s (decS (l.take i)))) ∧ Hid (Upd [] w wr))
  case atStart => exact ⟨0, by omega, by omega, rfl, Lib.hid (OwnX.nil _ _ _), Lib.hid (Upd.refl _ _)⟩
  case round =>
    obtain ⟨i, hin, rfl, rfl, HO, HU⟩ := hrel
    obtain ⟨va, vc, hv4⟩ := HO.out.form
    rw [length_i64s] at hv4
    subst hv4
    by_cases hc : i < n
    · have hcz : (i : Int) < (n : Int) := by omega
      have hil : i < l.length := by rw [HLN.out]; exact hc
      have hw1 : IntKind.i64.wrap ((i : Int) + 1) = ((i + 1 : Nat) : Int) := by rw [IntWalk.i64_in _ (by omega)]; rfl
      obtain ⟨b, off, rfl, hc1, hc2, hc3⟩ := (HI.out.pure HU.out).cell i hil
      have HST : Hid (decS (l.take (i + 1)) = dec1 (decS (l.take i)) l[i]) := Lib.hid (by rw [List.take_succ_eq_append_getElem hil, decS_snoc])
      have hok : OkS (decS (l.take i)) l[i] := HOA.out i hil
      have hd4 := HDL.out i (by omega)
      generalize l[i] = s at *
      generalize decS (l.take i) = out at *
      obtain ⟨sy, sb, sm⟩ := s
      obtain ⟨h18, hbb, hmm, hss, hrr⟩ := hok
      dsimp only at hc1 hc2 hc3 h18 hbb hmm hss hrr
      subst hbb
      obtain ⟨ol, hol2⟩ : ∃ ol, out.length = ol := ⟨_, rfl⟩
      rw [hol2] at hd4 hrr HO ⊢
      have HOL := Lib.hid hol2
      clear hol2
      have hb7 := bitsN_le sy
      have HBI := Lib.hid (fun w' => r9bits_any sy w' h18)
      obtain ⟨bn, hbn⟩ : ∃ bn, bitsN sy = bn := ⟨_, rfl⟩
      rw [hbn] at hc2 hb7 hmm HBI
      have HBN := Lib.hid hbn
      have hT4 := Blk.new wr [.int .i64 (sy : Nat), .int .i64 (bn : Nat), .int .i64 (sm : Nat)] 56
      have hO4 := HO.out.upd ((Upd.refl [] wr).alloc (.cells #[.int .i64 (sy : Nat), .int .i64 (bn : Nat), .int .i64 (sm : Nat)] 56))
      have hU4 := HU.out.alloc (.cells #[.int .i64 (sy : Nat), .int .i64 (bn : Nat), .int .i64 (sm : Nat)] 56)
      have HMM := Lib.hid hmm
      have HSS := Lib.hid hss
      have hp128 : 2 ^ bn ≤ 2 ^ 7 := Nat.pow_le_pow_right (by omega) hb7
      have hsm : sm < 128 := by omega
      have htr : ol + timesN ⟨sy, bn, sm⟩ ≤ 400 := by rw [← hbn]; exact hrr
      have htl : timesN ⟨sy, bn, sm⟩ ≤ 400 := by omega
      have HST2 : Hid (decS (l.take (i + 1)) = out ++ List.replicate (timesN ⟨sy, bn, sm⟩) (valN out ⟨sy, bn, sm⟩)) := Lib.hid (by rw [HST.out, hbn]; rfl)
      clear hil HO HU hbn hmm hss hrr HST hp128
      go_upto_region 5 with fail
      change Code.wp _ _ _ _ (wr.alloc (.cells #[.int .i64 (sy : Nat), .int .i64 (bn : Nat), .int .i64 (sm : Nat)] 56))
      generalize wr.alloc (.cells #[.int .i64 (sy : Nat), .int .i64 (bn : Nat), .int .i64 (sm : Nat)] 56) = w4 at *
      generalize wr.heap.size = bx at *
      have HT4 := Lib.hid hT4
      have HO4 := Lib.hid hO4
      have HU4 := Lib.hid hU4
      clear hT4 hO4 hU4 hc1 hc2 hc3
      go_wp2
      go_loopg [7, 8] 1000 (fun gg s7 s8 wj => ∃ j : Nat, j ≤ bn ∧ gg = 1000 - j ∧ s8 = .int .i64 (j : Nat) ∧ s7 = .int .i64 ((2 ^ j : Nat) : Int) ∧ Hid (Upd [] w4 wj))
      case atStart => exact ⟨0, by omega, by omega, rfl, rfl, Lib.hid (Upd.refl _ _)⟩
      case round =>
        obtain ⟨j, hj, rfl, rfl, rfl, HUj⟩ := hrel
        have hT := HT4.out.upd HUj.out (by simp)
        have k0 := hT.cell 0 rfl
        have k1 := hT.cell 1 rfl
        have k2 := hT.cell 2 rfl
        have HBc := Lib.hid (HBI.out wr)
        by_cases hjb : j < bn
        · have hjz : (j : Int) < (bn : Int) := by omega
          have hwj : IntKind.i64.wrap ((j : Int) + 1) = ((j + 1 : Nat) : Int) := by rw [IntWalk.i64_in _ (by omega)]; rfl
          have hp : 2 ^ j ≤ 2 ^ 7 := Nat.pow_le_pow_right (by omega) (by omega)
          have HP : Hid (2 ^ (j + 1) = 2 * 2 ^ j) := Lib.hid (by rw [Nat.pow_succ, Nat.mul_comm])
          generalize 2 ^ j = p at *
          have hw2 : IntKind.i64.wrap (2 * (p : Int)) = ((2 * p : Nat) : Int) := by rw [IntWalk.i64_in _ (by omega)]; omega
          clear hT
          go_wp2_with fail
          refine HBc.out.mono ?_
          rintro e w6 ⟨rfl, hU6⟩
          have HU6 := Lib.hid (HUj.out.then hU6)
          clear hU6 HBc
          go_wp2
          go_roundg (1000 - (j + 1))
          · exact ⟨j + 1, by omega, by omega, by first | rfl | go_num, by rw [HP.out]; first | rfl | go_num, HU6⟩
          · omega
        · have hjz : ¬ (j : Int) < (bn : Int) := by omega
          obtain rfl : j = bn := by omega
          have hmm := HMM.out
          obtain ⟨p, hp⟩ : ∃ p, 2 ^ j = p := ⟨_, rfl⟩
          rw [hp] at hmm ⊢
          have hmz : ¬ (p : Int) ≤ (sm : Int) := by omega
          have hb0 : ¬ (j : Int) < 0 := by omega
          have hm0 : ¬ (sm : Int) < 0 := by omega
          have hne : ((j : Int) != (j : Int)) = false := by simp
          have hmp : ¬ p ≤ sm := by omega
          clear hp hT
          go_wp2_with fail
          refine HBc.out.mono ?_
          rintro e wk ⟨rfl, hU6⟩
          have HUk := Lib.hid (HUj.out.then hU6)
          have hT := HT4.out.upd HUk.out (by simp)
          clear k0 k1 k2
          have k0 := hT.cell 0 rfl
          have k1 := hT.cell 1 rfl
          have k2 := hT.cell 2 rfl
          have HBI := Lib.hid (fun w' => HBI.out w')
          clear hU6 HBc hT HUj
          go_wp2
          refine wp_region_held_drew (S := fun w' => HC [] wk [(⟨bx, 0, none⟩, .int .i64 (sy : Nat)), (⟨bx, 1, none⟩, .int .i64 (j : Nat)), (⟨bx, 2, none⟩, .int .i64 (sm : Nat))] w') (by kernel_rfl) (HC.of (fp := []) (W := wk) (fs := [(⟨bx, 0, none⟩, .int .i64 (sy : Nat)), (⟨bx, 1, none⟩, .int .i64 (j : Nat)), (⟨bx, 2, none⟩, .int .i64 (sm : Nat))]) ⟨k0, k1, k2, trivial⟩).drew (fun hHeld => ?_)
          change wpAnyH _ _ _ _ _ 23 #[false, false, false, false, false, false, false, false, false, false, false, false, false, false, false, false, false, false, false, false, false, false, false] _ _
          refine heldTake (i := 0) (d := some 27) (v := ?v0_1) rfl rfl (by kernel_rfl) (by kernel_rfl) (by kernel_rfl) (fun _ _ _ h => h) (by rfl) ?hy0_1 (by assumption) ?r0_1
          case hy0_1 => (intro w hSw; (try dsimp only at hSw); go_simp; try with_reducible rfl)
          try simp only [Act.put, List.setIfInBounds_toArray, List.set_cons_zero, List.set_cons_succ]
          change wpAnyH _ _ _ _ _ 22 #[true, false, false, false, false, false, false, false, false, false, false, false, false, false, false, false, false, false, false, false, false, false, false] _ _
          refine heldTake (i := 1) (d := some 28) (v := ?v1_2) rfl rfl (by kernel_rfl) (by kernel_rfl) (by kernel_rfl) (fun _ _ _ h => h) (by rfl) ?hy1_2 (by assumption) ?r1_2
          case hy1_2 => (intro w hSw; have q0 := hSw.cells.1; dsimp only at q0; clear hSw; go_simp; try with_reducible rfl)
          try simp only [Act.put, List.setIfInBounds_toArray, List.set_cons_zero, List.set_cons_succ]
          change wpAnyH _ _ _ _ _ 21 #[true, true, false, false, false, false, false, false, false, false, false, false, false, false, false, false, false, false, false, false, false, false, false] _ _
          refine wpAnyH_ready (rs := [2]) (by kernel_rfl) (by simp) ?_
          refine AllReadyH.cons rfl (fun K hK => ?_) AllReadyH.nil
          go_simp
          refine (HBI.out _).mono ?_
          rintro e z ⟨rfl, hU⟩
          go_wp2
          refine hK.out _ _ (hHeld.then hU) (fun hHeld => ?_)
          clear hK K
          try simp only [Act.put, List.setIfInBounds_toArray, List.set_cons_zero, List.set_cons_succ]
          clear hU
          change wpAnyH _ _ _ _ _ 20 #[true, true, true, false, false, false, false, false, false, false, false, false, false, false, false, false, false, false, false, false, false, false, false] _ _
          refine heldTake (i := 3) (d := some 30) (v := (.bool false)) rfl rfl (by kernel_rfl) (by kernel_rfl) (by kernel_rfl) (fun _ _ _ h => h) (by rfl) ?hy3_4 (by assumption) ?r3_4
          case hy3_4 => (intro w hSw; clear hSw; go_simp; try with_reducible rfl)
          try simp only [Act.put, List.setIfInBounds_toArray, List.set_cons_zero, List.set_cons_succ]
          change wpAnyH _ _ _ _ _ 19 #[true, true, true, true, false, false, false, false, false, false, false, false, false, false, false, false, false, false, false, false, false, false, false] _ _
          refine heldTake (i := 4) (d := some 31) (v := ?v4_5) rfl rfl (by kernel_rfl) (by kernel_rfl) (by kernel_rfl) (fun _ _ _ h => h) (by rfl) ?hy4_5 (by assumption) ?r4_5
          case hy4_5 => (intro w hSw; (try dsimp only at hSw); go_simp; try with_reducible rfl)
          try simp only [Act.put, List.setIfInBounds_toArray, List.set_cons_zero, List.set_cons_succ]
          change wpAnyH _ _ _ _ _ 18 #[true, true, true, true, true, false, false, false, false, false, false, false, false, false, false, false, false, false, false, false, false, false, false] _ _
          refine heldTake (i := 5) (d := some 32) (v := ?v5_6) rfl rfl (by kernel_rfl) (by kernel_rfl) (by kernel_rfl) (fun _ _ _ h => h) (by rfl) ?hy5_6 (by assumption) ?r5_6
          case hy5_6 => (intro w hSw; (try dsimp only at hSw); go_simp; try with_reducible rfl)
          try simp only [Act.put, List.setIfInBounds_toArray, List.set_cons_zero, List.set_cons_succ]
          change wpAnyH _ _ _ _ _ 17 #[true, true, true, true, true, true, false, false, false, false, false, false, false, false, false, false, false, false, false, false, false, false, false] _ _
          refine heldTake (i := 6) (d := some 33) (v := ?v6_7) rfl rfl (by kernel_rfl) (by kernel_rfl) (by kernel_rfl) (fun _ _ _ h => h) (by rfl) ?hy6_7 (by assumption) ?r6_7
          case hy6_7 => (intro w hSw; have q0 := hSw.cells.2.1; dsimp only at q0; clear hSw; go_simp; try with_reducible rfl)
          try simp only [Act.put, List.setIfInBounds_toArray, List.set_cons_zero, List.set_cons_succ]
          change wpAnyH _ _ _ _ _ 16 #[true, true, true, true, true, true, true, false, false, false, false, false, false, false, false, false, false, false, false, false, false, false, false] _ _
          refine heldTake (i := 7) (d := some 34) (v := ?v7_8) rfl rfl (by kernel_rfl) (by kernel_rfl) (by kernel_rfl) (fun _ _ _ h => h) (by rfl) ?hy7_8 (by assumption) ?r7_8
          case hy7_8 => (intro w hSw; (try dsimp only at hSw); go_simp; try with_reducible rfl)
          try simp only [Act.put, List.setIfInBounds_toArray, List.set_cons_zero, List.set_cons_succ]
          change wpAnyH _ _ _ _ _ 15 #[true, true, true, true, true, true, true, true, false, false, false, false, false, false, false, false, false, false, false, false, false, false, false] _ _
          refine heldTake (i := 8) (d := some 35) (v := ?v8_9) rfl rfl (by kernel_rfl) (by kernel_rfl) (by kernel_rfl) (fun _ _ _ h => h) (by rfl) ?hy8_9 (by assumption) ?r8_9
          case hy8_9 => (intro w hSw; have q0 := hSw.cells.1; dsimp only at q0; clear hSw; go_simp; try with_reducible rfl)
          try simp only [Act.put, List.setIfInBounds_toArray, List.set_cons_zero, List.set_cons_succ]
          change wpAnyH _ _ _ _ _ 14 #[true, true, true, true, true, true, true, true, true, false, false, false, false, false, false, false, false, false, false, false, false, false, false] _ _
          refine wpAnyH_ready (rs := [9]) (by kernel_rfl) (by simp) ?_
          refine AllReadyH.cons rfl (fun K hK => ?_) AllReadyH.nil
          go_simp
          refine (HBI.out _).mono ?_
          rintro e z ⟨rfl, hU⟩
          go_wp2
          refine hK.out _ _ (hHeld.then hU) (fun hHeld => ?_)
          clear hK K
          try simp only [Act.put, List.setIfInBounds_toArray, List.set_cons_zero, List.set_cons_succ]
          clear hU
          change wpAnyH _ _ _ _ _ 13 #[true, true, true, true, true, true, true, true, true, true, false, false, false, false, false, false, false, false, false, false, false, false, false] _ _
          refine heldTake (i := 10) (d := some 37) (v := (.bool false)) rfl rfl (by kernel_rfl) (by kernel_rfl) (by kernel_rfl) (fun _ _ _ h => h) (by rfl) ?hy10_11 (by assumption) ?r10_11
          case hy10_11 => (intro w hSw; clear hSw; go_simp; try with_reducible rfl)
          try simp only [Act.put, List.setIfInBounds_toArray, List.set_cons_zero, List.set_cons_succ]
          change wpAnyH _ _ _ _ _ 12 #[true, true, true, true, true, true, true, true, true, true, true, false, false, false, false, false, false, false, false, false, false, false, false] _ _
          refine heldTake (i := 11) (d := some 38) (v := ?v11_12) rfl rfl (by kernel_rfl) (by kernel_rfl) (by kernel_rfl) (fun _ _ _ h => h) (by rfl) ?hy11_12 (by assumption) ?r11_12
          case hy11_12 => (intro w hSw; (try dsimp only at hSw); go_simp; try with_reducible rfl)
          try simp only [Act.put, List.setIfInBounds_toArray, List.set_cons_zero, List.set_cons_succ]
          change wpAnyH _ _ _ _ _ 11 #[true, true, true, true, true, true, true, true, true, true, true, true, false, false, false, false, false, false, false, false, false, false, false] _ _
          refine heldTake (i := 12) (d := some 39) (v := ?v12_13) rfl rfl (by kernel_rfl) (by kernel_rfl) (by kernel_rfl) (fun _ _ _ h => h) (by rfl) ?hy12_13 (by assumption) ?r12_13
          case hy12_13 => (intro w hSw; (try dsimp only at hSw); go_simp; try with_reducible rfl)
          try simp only [Act.put, List.setIfInBounds_toArray, List.set_cons_zero, List.set_cons_succ]
          change wpAnyH _ _ _ _ _ 10 #[true, true, true, true, true, true, true, true, true, true, true, true, true, false, false, false, false, false, false, false, false, false, false] _ _
          refine heldTake (i := 13) (d := some 40) (v := ?v13_14) rfl rfl (by kernel_rfl) (by kernel_rfl) (by kernel_rfl) (fun _ _ _ h => h) (by rfl) ?hy13_14 (by assumption) ?r13_14
          case hy13_14 => (intro w hSw; (try dsimp only at hSw); go_simp; try with_reducible rfl)
          try simp only [Act.put, List.setIfInBounds_toArray, List.set_cons_zero, List.set_cons_succ]
          change wpAnyH _ _ _ _ _ 9 #[true, true, true, true, true, true, true, true, true, true, true, true, true, true, false, false, false, false, false, false, false, false, false] _ _
          refine heldTake (i := 14) (d := some 41) (v := ?v14_15) rfl rfl (by kernel_rfl) (by kernel_rfl) (by kernel_rfl) (fun _ _ _ h => h) (by rfl) ?hy14_15 (by assumption) ?r14_15
          case hy14_15 => (intro w hSw; have q0 := hSw.cells.2.2.1; dsimp only at q0; clear hSw; go_simp; try with_reducible rfl)
          try simp only [Act.put, List.setIfInBounds_toArray, List.set_cons_zero, List.set_cons_succ]
          change wpAnyH _ _ _ _ _ 8 #[true, true, true, true, true, true, true, true, true, true, true, true, true, true, true, false, false, false, false, false, false, false, false] _ _
          refine heldTake (i := 15) (d := some 42) (v := (.bool false)) rfl rfl (by kernel_rfl) (by kernel_rfl) (by kernel_rfl) (fun _ _ _ h => h) (by rfl) ?hy15_16 (by assumption) ?r15_16
          case hy15_16 => (intro w hSw; clear hSw; go_simp; try with_reducible rfl)
          try simp only [Act.put, List.setIfInBounds_toArray, List.set_cons_zero, List.set_cons_succ]
          change wpAnyH _ _ _ _ _ 7 #[true, true, true, true, true, true, true, true, true, true, true, true, true, true, true, true, false, false, false, false, false, false, false] _ _
          refine heldTake (i := 16) (d := some 43) (v := ?v16_17) rfl rfl (by kernel_rfl) (by kernel_rfl) (by kernel_rfl) (fun _ _ _ h => h) (by rfl) ?hy16_17 (by assumption) ?r16_17
          case hy16_17 => (intro w hSw; (try dsimp only at hSw); go_simp; try with_reducible rfl)
          try simp only [Act.put, List.setIfInBounds_toArray, List.set_cons_zero, List.set_cons_succ]
          change wpAnyH _ _ _ _ _ 6 #[true, true, true, true, true, true, true, true, true, true, true, true, true, true, true, true, true, false, false, false, false, false, false] _ _
          refine heldTake (i := 17) (d := some 44) (v := ?v17_18) rfl rfl (by kernel_rfl) (by kernel_rfl) (by kernel_rfl) (fun _ _ _ h => h) (by rfl) ?hy17_18 (by assumption) ?r17_18
          case hy17_18 => (intro w hSw; (try dsimp only at hSw); go_simp; try with_reducible rfl)
          try simp only [Act.put, List.setIfInBounds_toArray, List.set_cons_zero, List.set_cons_succ]
          change wpAnyH _ _ _ _ _ 5 #[true, true, true, true, true, true, true, true, true, true, true, true, true, true, true, true, true, true, false, false, false, false, false] _ _
          refine heldTake (i := 18) (d := some 45) (v := ?v18_19) rfl rfl (by kernel_rfl) (by kernel_rfl) (by kernel_rfl) (fun _ _ _ h => h) (by rfl) ?hy18_19 (by assumption) ?r18_19
          case hy18_19 => (intro w hSw; (try dsimp only at hSw); go_simp; try with_reducible rfl)
          try simp only [Act.put, List.setIfInBounds_toArray, List.set_cons_zero, List.set_cons_succ]
          change wpAnyH _ _ _ _ _ 4 #[true, true, true, true, true, true, true, true, true, true, true, true, true, true, true, true, true, true, true, false, false, false, false] _ _
          refine heldTake (i := 19) (d := some 46) (v := ?v19_20) rfl rfl (by kernel_rfl) (by kernel_rfl) (by kernel_rfl) (fun _ _ _ h => h) (by rfl) ?hy19_20 (by assumption) ?r19_20
          case hy19_20 => (intro w hSw; have q0 := hSw.cells.2.2.1; dsimp only at q0; clear hSw; go_simp; try with_reducible rfl)
          try simp only [Act.put, List.setIfInBounds_toArray, List.set_cons_zero, List.set_cons_succ]
          change wpAnyH _ _ _ _ _ 3 #[true, true, true, true, true, true, true, true, true, true, true, true, true, true, true, true, true, true, true, true, false, false, false] _ _
          refine heldTake (i := 20) (d := some 47) (v := ?v20_21) rfl rfl (by kernel_rfl) (by kernel_rfl) (by kernel_rfl) (fun _ _ _ h => h) (by rfl) ?hy20_21 (by assumption) ?r20_21
          case hy20_21 => (intro w hSw; (try dsimp only at hSw); go_simp; try with_reducible rfl)
          try simp only [Act.put, List.setIfInBounds_toArray, List.set_cons_zero, List.set_cons_succ]
          change wpAnyH _ _ _ _ _ 2 #[true, true, true, true, true, true, true, true, true, true, true, true, true, true, true, true, true, true, true, true, true, false, false] _ _
          refine heldTake (i := 21) (d := some 48) (v := (.bool false)) rfl rfl (by kernel_rfl) (by kernel_rfl) (by kernel_rfl) (fun _ _ _ h => h) (by rfl) ?hy21_22 (by assumption) ?r21_22
          case hy21_22 => (intro w hSw; clear hSw; go_simp; try with_reducible rfl)
          try simp only [Act.put, List.setIfInBounds_toArray, List.set_cons_zero, List.set_cons_succ]
          change wpAnyH _ _ _ _ _ 1 #[true, true, true, true, true, true, true, true, true, true, true, true, true, true, true, true, true, true, true, true, true, true, false] _ _
          refine heldTake (i := 22) (d := some 49) (v := ?v22_23) rfl rfl (by kernel_rfl) (by kernel_rfl) (by kernel_rfl) (fun _ _ _ h => h) (by rfl) ?hy22_23 (by assumption) ?r22_23
          case hy22_23 => (intro w hSw; (try dsimp only at hSw); go_simp; try with_reducible rfl)
          try simp only [Act.put, List.setIfInBounds_toArray, List.set_cons_zero, List.set_cons_succ]
          change wpAnyH _ _ _ _ _ 0 #[true, true, true, true, true, true, true, true, true, true, true, true, true, true, true, true, true, true, true, true, true, true, true] _ _
          refine wpAnyH_done (by kernel_rfl) ?_ 0
          have HUz := Lib.hid hHeld.upd
          have hkz := hHeld.cells
          clear hHeld
          obtain ⟨m0, m1, m2, _⟩ := hkz
          dsimp only at m0 m1 m2
          have HOz := Lib.hid ((HO4.out.upd HUk.out).upd HUz.out)
          have HUw := Lib.hid ((HU4.out.then HUk.out).then HUz.out)
          clear k0 k1 k2 HUk HUz HBI hne hb0 hm0 hmz hmp hmm HMM
          go_wp2
          go_quiet (fail)
          have q0 : (z.drewN nq).cell? ⟨bx, 0, none⟩ = some (.int .i64 (sy : Nat)) := m0
          have q2 : (z.drewN nq).cell? ⟨bx, 2, none⟩ = some (.int .i64 (sm : Nat)) := m2
          have HO9 := Lib.hid (HOz.out.upd ((Upd.refl [] z).drewN nq))
          have HU9 := Lib.hid (HUw.out.drewN nq)
          clear m0 m1 m2 HOz HUw
          generalize z.drewN nq = w9 at *
          go_upto_if 54 with fail
          have HSE : Hid (timesN ⟨sy, j, sm⟩ = if sy = 16 then 3 + sm else if sy = 17 then 3 + sm else if sy = 18 then 11 + sm else 1) := Lib.hid rfl
          have HVE : Hid (valN out ⟨sy, j, sm⟩ = if sy = 16 then out.getD (out.length - 1) 0 else if sy = 17 then 0 else if sy = 18 then 0 else sy) := Lib.hid rfl
          generalize timesN ⟨sy, j, sm⟩ = TT at *
          generalize valN out ⟨sy, j, sm⟩ = VV at *
          have hol : ol ≤ 400 := hd4
          go_cut [9, 10] (fun s9 s10 wx => s9 = .int .i64 (TT : Nat) ∧ s10 = .int .i64 (VV : Nat) ∧ wx = w9)
          case first =>
            by_cases e16 : sy = 16
            · have hT : TT = 3 + sm := by rw [HSE.out, if_pos e16]
              have hV : VV = out.getD (out.length - 1) 0 := by rw [HVE.out, if_pos e16]
              have hne := HSS.out e16
              have hpos : 0 < ol := by have := List.length_pos_iff.2 hne; rw [HOL.out] at this; exact this
              obtain ⟨g, cc, e, _, _⟩ := HO9.out.1.form' (by rw [length_i64s, HOL.out]; exact hpos)
              rw [length_i64s, HOL.out] at e
              cases e
              have hgt := getD_some9 (show out.length - 1 < out.length by rw [HOL.out]; omega)
              have hrow := HO9.out.1
              rw [length_i64s, HOL.out] at hrow
              have cl := hrow.cell (out.length - 1) (i64s_get out _ _ hgt)
              rw [← hV, HOL.out] at cl
              have HTT := Lib.hid hT
              have hwl : IntKind.i64.wrap ((ol : Int) - 1) = ((ol - 1 : Nat) : Int) := by rw [IntWalk.i64_in _ (by omega)]; omega
              have hol3 : ((ol - 1 : Nat) : Int) < (ol : Int) := by omega
              have hol4 : (0 : Int) ≤ ((ol - 1 : Nat) : Int) := by omega
              have hol5 : ¬ (ol : Int) = 0 := by omega
              have hol6 : ((ol : Int) == 0) = false := by simpa using hol5
              have hw3 : IntKind.i64.wrap (3 + (sm : Int)) = (TT : Int) := by rw [IntWalk.i64_in _ (by omega)]; omega
              have h16z : (sy : Int) = 16 := by omega
              clear hT hV hne hgt hrow
              obtain ⟨o1, ho1⟩ : ∃ o1, ol - 1 = o1 := ⟨_, rfl⟩
              rw [ho1] at cl hwl hol3 hol4
              clear ho1
              go_wp2
              go_meet
              exact ⟨by first | rfl | (rw [HTT.out]; first | rfl | go_num), rfl, rfl⟩
            · have h16z : ¬ (sy : Int) = 16 := by omega
              by_cases e17 : sy = 17
              · have hT : TT = 3 + sm := by rw [HSE.out, if_neg e16, if_pos e17]
                have hV : VV = 0 := by rw [HVE.out, if_neg e16, if_pos e17]
                have hw3 : IntKind.i64.wrap (3 + (sm : Int)) = (TT : Int) := by rw [IntWalk.i64_in _ (by omega)]; omega
                have h17z : (sy : Int) = 17 := by omega
                have HTT := Lib.hid hT
                have HVV := Lib.hid hV
                clear hT hV
                go_wp2
                go_meet
                exact ⟨by first | rfl | (rw [HTT.out]; first | rfl | go_num), by rw [HVV.out]; rfl, rfl⟩
              · have h17z : ¬ (sy : Int) = 17 := by omega
                by_cases e18 : sy = 18
                · have hT : TT = 11 + sm := by rw [HSE.out, if_neg e16, if_neg e17, if_pos e18]
                  have hV : VV = 0 := by rw [HVE.out, if_neg e16, if_neg e17, if_pos e18]
                  have hw3 : IntKind.i64.wrap (11 + (sm : Int)) = (TT : Int) := by rw [IntWalk.i64_in _ (by omega)]; omega
                  have h18z : (sy : Int) = 18 := by omega
                  have HTT := Lib.hid hT
                  have HVV := Lib.hid hV
                  clear hT hV
                  go_wp2
                  go_meet
                  exact ⟨by first | rfl | (rw [HTT.out]; first | rfl | go_num), by rw [HVV.out]; rfl, rfl⟩
                · have hT : TT = 1 := by rw [HSE.out, if_neg e16, if_neg e17, if_neg e18]
                  have hV : VV = sy := by rw [HVE.out, if_neg e16, if_neg e17, if_neg e18]
                  have h18z : ¬ (sy : Int) = 18 := by omega
                  have HTT := Lib.hid hT
                  have HVV := Lib.hid hV
                  clear hT hV
                  go_wp2
                  go_meet
                  exact ⟨by rw [HTT.out]; rfl, by rw [HVV.out], rfl⟩
          case rest =>
          obtain ⟨rfl, rfl, hwc⟩ := hcut
          subst hwc
          clear q0 q2 HSE HVE HSS
          go_wp2
          go_loopg [4, 11] 1000 (fun gg s4 s11 wj => ∃ k : Nat, k ≤ TT ∧ gg = 1000 - k ∧ s11 = .int .i64 (k : Nat) ∧ Hid (OwnX w wj 3 s4 (i64s (out ++ List.replicate k VV))) ∧ Hid (Upd [] w wj))
          case atStart => exact ⟨0, by omega, by omega, rfl, Lib.hid (by rw [List.replicate_zero, List.append_nil]; exact HO9.out), HU9⟩
          case round =>
            clear HO9 HU9
            obtain ⟨k, hk, rfl, rfl, HO, HU⟩ := hrel
            obtain ⟨va2, vc2, hv4⟩ := HO.out.form
            have hlen : (i64s (out ++ List.replicate k VV)).length = ol + k := by rw [length_i64s, List.length_append, List.length_replicate, HOL.out]
            rw [hlen] at hv4
            subst hv4
            have hk400 : ol + k ≤ 400 := by omega
            obtain ⟨N, hN⟩ : ∃ N, ol + k = N := ⟨_, rfl⟩
            rw [hN] at HO hlen hk400 ⊢
            by_cases hkt : k < TT
            · have hkz : (k : Int) < (TT : Int) := by omega
              have hwk : IntKind.i64.wrap ((k : Int) + 1) = ((k + 1 : Nat) : Int) := by rw [IntWalk.i64_in _ (by omega)]; rfl
              have HNW := Lib.hid (news1 wr (.int .i64 (VV : Nat)) 3)
              have hRz := HO.out.1
              rw [hlen] at hRz
              have hRz2 := hRz.alloc (.cells #[.int .i64 (VV : Nat)] 3)
              have HRS := Lib.hid (rep_succ out VV k)
              have HXL := Lib.hid hlen
              clear hlen hRz hN
              go_wp2_with (at_builtin; refine wpList_app _ rfl _ _ 22 rfl 3 i0 _ 1 8 Try.underlying22 hi hz0 hz1 hz2 rfl (by omega) (.slice va2 N vc2) N _ rfl hRz2 ⟨wr.heap.size, 0, none⟩ 1 1 [.int .i64 (VV : Nat)] rfl rfl HNW.out (by simp [Value.oneCell']) (by unfold maxLen; omega) (by omega) ?_)
              intro v5 w5 hR5 hU5 hT5
              have hA := HO.out.app HU.out ((Upd.refl [] wr).alloc (.cells #[.int .i64 (VV : Nat)] 3)) (ys := [.int .i64 (VV : Nat)]) (by rw [HXL.out]; exact hR5) hU5 hT5
              rw [← HRS.out] at hA
              have HA1 := Lib.hid hA.1
              have HA2 := Lib.hid hA.2
              clear hA hR5 hU5 hT5 hRz2
              go_wp2
              go_roundg (1000 - (k + 1))
              · exact ⟨k + 1, by omega, by omega, by first | rfl | go_num, HA1, HA2⟩
              · omega
            · have hkz : ¬ (k : Int) < (TT : Int) := by omega
              obtain rfl : k = TT := by omega
              have HFO : Hid (OwnX w wr 3 (.slice va2 N vc2) (i64s (decS (l.take (i + 1))))) := Lib.hid (by rw [HST2.out]; exact HO.out)
              have hN4 : ¬ (400 : Int) < (N : Int) := by omega
              clear hlen hN HO
              go_wp2
              go_roundg (200000 - (i + 1))
              · exact ⟨i + 1, by omega, by omega, by first | rfl | go_num, HFO, HU⟩
              · omega
    · have hcz : ¬ (i : Int) < (n : Int) := by omega
      obtain rfl : i = n := by omega
      have htk : l.take i = l := List.take_of_length_le (by rw [HLN.out]; exact Nat.le_refl _)
      rw [htk] at HO ⊢
      clear htk
      go_wp2
      go_ret2
      exact ⟨_, rfl, HO.out, HU.out⟩
end Go.Proofs.Ytdehkaknbmbieaa
