/- The law swinglelaw24.ExtentWide: its walk. -/
import Derived.Test.YtibmhadnfggmlaaExtN
import Derived.Test.YtibmhadnfggmlaaHeld
namespace Go.Proofs.Ytibmhadnfggmlaa
open Go.RowKit Go.Shelf
set_option linter.unusedVariables false
set_option linter.unusedSimpArgs false

set_option maxRecDepth 100000 in
theorem wide_many (a : Option Addr) (len cap : Nat) (x : Int × Int) (w : World) (hcap : cap ≤ 9223372036854775807) (hlc : len ≤ cap) (h : 20 < len) :
    Calls Try.prog 4 #[.slice a len cap, .agg #[.int .i64 x.1, .int .i64 x.2]] w fun e w' => e = .returned (.bool true) ∧ Upd [] w w' := by
  have hz : (20 : Int) < (len : Int) := by omega
  go_enter Try.func4, Try.ntmps4
  go_wp2_with fail
  refine (lives24 _).mono ?_
  rintro e w' ⟨rfl, hU⟩
  go_wp2
  go_ret
  exact ⟨rfl, ((Upd.refl _ _).alloc _).then hU⟩
set_option maxRecDepth 100000 in
set_option maxHeartbeats 12800000 in
theorem wide_few (a : Option Addr) (len cap : Nat) (f : Nat → Int × Int) (x : Int × Int) (w : World) (hcap : cap ≤ 9223372036854775807) (hlc : len ≤ cap) (h : len ≤ 20) (hin : SpansIn w a len f) :
    Calls Try.prog 4 #[.slice a len cap, .agg #[.int .i64 x.1, .int .i64 x.2]] w fun e w' => e = .returned (.bool true) ∧ Upd [] w w' := by
  have hz : (len : Int) ≤ 20 := by omega
  have HI := Lib.hid hin
  clear hin
  go_enter Try.func4, Try.ntmps4
  have hbx0 := Blk.new w [.int .i64 x.1, .int .i64 x.2] 24
  have hU0 : Upd [] w (w.alloc (.cells #[.int .i64 x.1, .int .i64 x.2] 24)) := (Upd.refl _ _).alloc _
  have hz0 : (w.alloc (.cells #[.int .i64 x.1, .int .i64 x.2] 24)).heap.size = w.heap.size + 1 := by simp
  have HBX := Lib.hid hbx0
  clear hbx0
  go_wp2_with fail
  refine (new_any a len cap f _ (by omega) hcap hlc (HI.out.upd hU0)).mono ?_
  rintro e w1 ⟨ba, va, rfl, hNa⟩
  have HNa := Lib.hid hNa
  clear hNa
  go_wp2_with fail
  refine (new_any none 0 0 (fun _ => (0, 0)) w1 (by omega) (by omega) (by omega) (fun i hi => by omega)).mono ?_
  rintro e w2 ⟨bb, vb, rfl, hNb⟩
  have hTwo := Two.new HNa.out hNb
  have HTwo := Lib.hid hTwo
  clear hNb hTwo HNa
  generalize w.alloc (.cells #[.int .i64 x.1, .int .i64 x.2] 24) = w0 at *
  go_wp2
  go_loopg [25] len (fun g s25 wr => ∃ k : Nat, ∃ vb', k ≤ len ∧ g = len - k ∧ s25 = .int .i64 (k : Nat) ∧ Hid (Two w0 wr ba va (addsP f len) bb vb' (addsP (fun i => f (len - 1 - i)) k)))
  case atStart => exact ⟨0, vb, by omega, rfl, rfl, HTwo⟩
  case round =>
    obtain ⟨k, vb', hk, rfl, rfl, HT⟩ := hrel
    clear HTwo
    by_cases hc : k < len
    · have hcz : (k : Int) < (len : Int) := by omega
      have hsi := (HI.out.upd hU0).upd HT.out.a.up
      obtain ⟨b, off, rfl, c0, c1⟩ := hsi (len - 1 - k) (by omega)
      have hnn : addsP (fun i => f (len - 1 - i)) (k + 1) = addP (addsP (fun i => f (len - 1 - i)) k) (f (len - 1 - k)) := addsP_succ _ k
      have HNN := Lib.hid hnn
      have hln := addsP_len (fun i => f (len - 1 - i)) k
      have hd1 : (0 : Int) ≤ (len : Int) - 1 - (k : Int) := by omega
      have hd2 : ((len : Int) - 1 - (k : Int)).toNat = len - 1 - k := by omega
      have hd3 : (len : Int) - 1 - (k : Int) < (len : Int) := by omega
      have hk0 : 0 < len := by omega
      have hd4 : len - 1 - k < len := by omega
      clear hnn hsi
      generalize addsP (fun i => f (len - 1 - i)) k = lk at *
      obtain ⟨y, hy⟩ : ∃ y, f (len - 1 - k) = y := ⟨_, rfl⟩
      rw [hy] at c0 c1 HNN
      clear hy
      go_wp2_with fail
      refine (add_any bb _ _ y _ HT.out.b.set (by omega)).mono ?_
      rintro e w3 ⟨rfl, vb3, h1, h2, h3⟩
      go_wp2
      go_roundg (len - (k + 1))
      all_goals first
        | omega
        | exact ⟨k + 1, vb3, by omega, rfl, by go_num, Lib.hid (by rw [HNN.out]; exact HT.out.stepB h1 h2 h3)⟩
    · obtain rfl : k = len := by omega
      rw [← adds_rev f k] at HT
      have hln := addsP_len f k
      have hnm := addsP_norm f k
      have HNM := Lib.hid hnm
      clear hnm HI
      obtain ⟨la, hla⟩ : ∃ la, addsP f k = la := ⟨_, rfl⟩
      rw [hla] at HT HNM hln
      clear hla
      have hUw := Lib.hid (hU0.then HT.out.a.up)
      have hBXr := Lib.hid (HBX.out.upd HT.out.a.up (by simp))
      have hszr : w.heap.size < wr.heap.size := hBXr.out.lt
      have HSA := Lib.hid (spans_any (some ⟨ba, 0, none⟩) la wr (HT.out.a.inn (by omega)))
      have hw0 : w.heap.size < w0.heap.size := HBX.out.lt
      clear hz0 HBX
      clear hU0
      go_wp2_with fail
      refine HSA.out.mono ?_
      rintro e w3 ⟨v1, rfl, hR1, hU3, hg1⟩
      clear HSA
      obtain ⟨r1, rc1, rfl⟩ := hR1.form
      have HR1 := Lib.hid hR1
      have HT3 := Lib.hid (HT.out.pure hU3)
      have hUw3 := Lib.hid (hUw.out.then hU3)
      have hBX3 := Lib.hid (hBXr.out.upd hU3 (by simp))
      clear hR1 HT hUw hBXr hg1 hU3
      go_wp2
      go_loopg [43] la.length (fun g s43 wr => ∃ i : Nat, i ≤ la.length ∧ g = la.length - i ∧ s43 = .int .i64 (i : Nat) ∧ Upd [] w3 wr)
      case atStart => exact ⟨0, by omega, rfl, rfl, Upd.refl _ _⟩
      case round =>
        obtain ⟨i, hil, rfl, rfl, hU4⟩ := hrel
        by_cases hc2 : i < la.length
        · have hcz2 : (i : Int) < (la.length : Int) := by omega
          obtain ⟨g1, d1, e1, hg1, hd1⟩ := HR1.out.form' (by omega)
          cases e1
          have HR4 := Lib.hid (HR1.out.upd hU4 (by simp))
          obtain ⟨p0, p1⟩ := flat_get la i hc2
          have c0 := HR4.out.cell (i * 2) p0
          have c1 := HR4.out.cell (i * 2 + 1) p1
          have hok := norm_ok HNM.out i hc2
          have hprev : 0 < i → ∃ z, (∀ w5, Upd [] wr w5 → w5.cell? ⟨g1, (i - 1) * 2 + 1, none⟩ = some (.int .i64 z)) ∧ z < la[i].1 := fun h0 =>
            ⟨la[i - 1].2, fun w5 hU5 => (HR4.out.upd hU5 (by simp)).cell _ (flat_get la (i - 1) (by omega)).2, by
              exact norm_prev HNM.out i hc2 h0⟩
          have HPR := Lib.hid hprev
          clear hprev p0 p1
          obtain ⟨y, hy⟩ : ∃ y, la[i] = y := ⟨_, rfl⟩
          rw [hy] at c0 c1 hok HPR
          clear hy
          have HOK := Lib.hid hok
          clear hok
          go_upto_region 13 with fail
          have HY := Lib.hid (Blk.new wr [.int .i64 y.1, .int .i64 y.2] 24)
          have hU45 := hU4.alloc (.cells #[.int .i64 y.1, .int .i64 y.2] 24)
          have hU4n : Upd [] wr (wr.alloc (.cells #[.int .i64 y.1, .int .i64 y.2] 24)) := (Upd.refl _ _).alloc _
          change Code.wp _ _ _ _ (wr.alloc (.cells #[.int .i64 y.1, .int .i64 y.2] 24))
          generalize wr.alloc (.cells #[.int .i64 y.1, .int .i64 y.2] 24) = w5 at *
          clear c0 c1
          by_cases hi0 : i = 0
          · subst hi0
            refine wp_region_held_drew (S := fun w' => Upd [] w5 w') (by kernel_rfl) (Upd.refl _ _).drew (fun hHeld => ?_)
            change wpAnyH _ _ _ _ _ 18 #[false, false, false, false, false, false, false, false, false, false, false, false, false, false, false, false, false, false] _ _
            refine heldTake (i := 0) (d := some 48) (v := ?v0_1) rfl rfl (by kernel_rfl) (by kernel_rfl) (by kernel_rfl) (fun _ _ _ h => h) (by rfl) ?hy0_1 (by assumption) ?r0_1
            case hy0_1 => (intro w hSw; have q0 := (HY.out.upd hSw (by simp)).cell 0 rfl; have q1 := (HY.out.upd hSw (by simp)).cell 1 rfl; go_simp; try with_reducible rfl)
            try simp only [Act.put, List.setIfInBounds_toArray, List.set_cons_zero, List.set_cons_succ]
            change wpAnyH _ _ _ _ _ 17 #[true, false, false, false, false, false, false, false, false, false, false, false, false, false, false, false, false, false] _ _
            refine wpAnyH_ready (rs := [1]) (by kernel_rfl) (by simp) ?_
            refine AllReadyH.cons rfl (fun K hK => ?_) AllReadyH.nil
            go_simp
            go_at_call 20
            refine (rright_any _ _ _).mono ?_
            rintro e v0 ⟨rfl, hV0⟩
            rw [show spanOk (y.1, y.2) = true from HOK.out]
            have hS0 : Upd [] w5 v0 := hHeld.then hV0
            go_wp2
            refine hK.out _ _ hS0 (fun hHeld => ?_)
            clear hK K
            try simp only [Act.put, List.setIfInBounds_toArray, List.set_cons_zero, List.set_cons_succ]
            change wpAnyH _ _ _ _ _ 16 #[true, true, false, false, false, false, false, false, false, false, false, false, false, false, false, false, false, false] _ _
            refine heldTake (i := 2) (d := some 50) (v := ?v2_3) rfl rfl (by kernel_rfl) (by kernel_rfl) (by kernel_rfl) (fun _ _ _ h => h) (by rfl) ?hy2_3 (by assumption) ?r2_3
            case hy2_3 => (intro w hSw; (try dsimp only at hSw); go_simp; try with_reducible rfl)
            try simp only [Act.put, List.setIfInBounds_toArray, List.set_cons_zero, List.set_cons_succ]
            change wpAnyH _ _ _ _ _ 15 #[true, true, true, false, false, false, false, false, false, false, false, false, false, false, false, false, false, false] _ _
            refine heldTake (i := 3) (d := some 51) (v := ?v3_4) rfl rfl (by kernel_rfl) (by kernel_rfl) (by kernel_rfl) (fun _ _ _ h => h) (by rfl) ?hy3_4 (by assumption) ?r3_4
            case hy3_4 => (intro w hSw; (try dsimp only at hSw); go_simp; try with_reducible rfl)
            try simp only [Act.put, List.setIfInBounds_toArray, List.set_cons_zero, List.set_cons_succ]
            change wpAnyH _ _ _ _ _ 14 #[true, true, true, true, false, false, false, false, false, false, false, false, false, false, false, false, false, false] _ _
            refine heldTake (i := 4) (d := some 52) (v := ?v4_5) rfl rfl (by kernel_rfl) (by kernel_rfl) (by kernel_rfl) (fun _ _ _ h => h) (by rfl) ?hy4_5 (by assumption) ?r4_5
            case hy4_5 => (intro w hSw; (try dsimp only at hSw); go_simp; try with_reducible rfl)
            try simp only [Act.put, List.setIfInBounds_toArray, List.set_cons_zero, List.set_cons_succ]
            change wpAnyH _ _ _ _ _ 13 #[true, true, true, true, true, false, false, false, false, false, false, false, false, false, false, false, false, false] _ _
            refine heldTake (i := 5) (d := some 53) (v := ?v5_6) rfl rfl (by kernel_rfl) (by kernel_rfl) (by kernel_rfl) (fun _ _ _ h => h) (by rfl) ?hy5_6 (by assumption) ?r5_6
            case hy5_6 => (intro w hSw; (try dsimp only at hSw); go_simp; try with_reducible rfl)
            try simp only [Act.put, List.setIfInBounds_toArray, List.set_cons_zero, List.set_cons_succ]
            change wpAnyH _ _ _ _ _ 12 #[true, true, true, true, true, true, false, false, false, false, false, false, false, false, false, false, false, false] _ _
            refine heldTake (i := 6) (d := some 54) (v := ?v6_7) rfl rfl (by kernel_rfl) (by kernel_rfl) (by kernel_rfl) (fun _ _ _ h => h) (by rfl) ?hy6_7 (by assumption) ?r6_7
            case hy6_7 => (intro w hSw; (try dsimp only at hSw); go_simp; try with_reducible rfl)
            try simp only [Act.put, List.setIfInBounds_toArray, List.set_cons_zero, List.set_cons_succ]
            change wpAnyH _ _ _ _ _ 11 #[true, true, true, true, true, true, true, false, false, false, false, false, false, false, false, false, false, false] _ _
            refine heldSkip (i := 7) (d := some 55) rfl rfl (by kernel_rfl) (by kernel_rfl) (by kernel_rfl) (fun _ _ _ h => h) (by rfl) (by assumption) ?r7_8
            try simp only [Act.put, List.setIfInBounds_toArray, List.set_cons_zero, List.set_cons_succ]
            change wpAnyH _ _ _ _ _ 10 #[true, true, true, true, true, true, true, true, false, false, false, false, false, false, false, false, false, false] _ _
            refine heldSkip (i := 8) (d := some 56) rfl rfl (by kernel_rfl) (by kernel_rfl) (by kernel_rfl) (fun _ _ _ h => h) (by rfl) (by assumption) ?r8_9
            try simp only [Act.put, List.setIfInBounds_toArray, List.set_cons_zero, List.set_cons_succ]
            change wpAnyH _ _ _ _ _ 9 #[true, true, true, true, true, true, true, true, true, false, false, false, false, false, false, false, false, false] _ _
            refine heldSkip (i := 9) (d := some 57) rfl rfl (by kernel_rfl) (by kernel_rfl) (by kernel_rfl) (fun _ _ _ h => h) (by rfl) (by assumption) ?r9_10
            try simp only [Act.put, List.setIfInBounds_toArray, List.set_cons_zero, List.set_cons_succ]
            change wpAnyH _ _ _ _ _ 8 #[true, true, true, true, true, true, true, true, true, true, false, false, false, false, false, false, false, false] _ _
            refine heldSkip (i := 10) (d := some 58) rfl rfl (by kernel_rfl) (by kernel_rfl) (by kernel_rfl) (fun _ _ _ h => h) (by rfl) (by assumption) ?r10_11
            try simp only [Act.put, List.setIfInBounds_toArray, List.set_cons_zero, List.set_cons_succ]
            change wpAnyH _ _ _ _ _ 7 #[true, true, true, true, true, true, true, true, true, true, true, false, false, false, false, false, false, false] _ _
            refine heldSkip (i := 11) (d := some 59) rfl rfl (by kernel_rfl) (by kernel_rfl) (by kernel_rfl) (fun _ _ _ h => h) (by rfl) (by assumption) ?r11_12
            try simp only [Act.put, List.setIfInBounds_toArray, List.set_cons_zero, List.set_cons_succ]
            change wpAnyH _ _ _ _ _ 6 #[true, true, true, true, true, true, true, true, true, true, true, true, false, false, false, false, false, false] _ _
            refine heldSkip (i := 12) (d := some 60) rfl rfl (by kernel_rfl) (by kernel_rfl) (by kernel_rfl) (fun _ _ _ h => h) (by rfl) (by assumption) ?r12_13
            try simp only [Act.put, List.setIfInBounds_toArray, List.set_cons_zero, List.set_cons_succ]
            change wpAnyH _ _ _ _ _ 5 #[true, true, true, true, true, true, true, true, true, true, true, true, true, false, false, false, false, false] _ _
            refine heldSkip (i := 13) (d := some 61) rfl rfl (by kernel_rfl) (by kernel_rfl) (by kernel_rfl) (fun _ _ _ h => h) (by rfl) (by assumption) ?r13_14
            try simp only [Act.put, List.setIfInBounds_toArray, List.set_cons_zero, List.set_cons_succ]
            change wpAnyH _ _ _ _ _ 4 #[true, true, true, true, true, true, true, true, true, true, true, true, true, true, false, false, false, false] _ _
            refine heldSkip (i := 14) (d := some 62) rfl rfl (by kernel_rfl) (by kernel_rfl) (by kernel_rfl) (fun _ _ _ h => h) (by rfl) (by assumption) ?r14_15
            try simp only [Act.put, List.setIfInBounds_toArray, List.set_cons_zero, List.set_cons_succ]
            change wpAnyH _ _ _ _ _ 3 #[true, true, true, true, true, true, true, true, true, true, true, true, true, true, true, false, false, false] _ _
            refine heldSkip (i := 15) (d := some 63) rfl rfl (by kernel_rfl) (by kernel_rfl) (by kernel_rfl) (fun _ _ _ h => h) (by rfl) (by assumption) ?r15_16
            try simp only [Act.put, List.setIfInBounds_toArray, List.set_cons_zero, List.set_cons_succ]
            change wpAnyH _ _ _ _ _ 2 #[true, true, true, true, true, true, true, true, true, true, true, true, true, true, true, true, false, false] _ _
            refine heldTake (i := 16) (d := some 64) (v := ?v16_17) rfl rfl (by kernel_rfl) (by kernel_rfl) (by kernel_rfl) (fun _ _ _ h => h) (by rfl) ?hy16_17 (by assumption) ?r16_17
            case hy16_17 => (intro w hSw; (try dsimp only at hSw); go_simp; try with_reducible rfl)
            try simp only [Act.put, List.setIfInBounds_toArray, List.set_cons_zero, List.set_cons_succ]
            change wpAnyH _ _ _ _ _ 1 #[true, true, true, true, true, true, true, true, true, true, true, true, true, true, true, true, true, false] _ _
            refine heldTake (i := 17) (d := some 65) (v := ?v17_18) rfl rfl (by kernel_rfl) (by kernel_rfl) (by kernel_rfl) (fun _ _ _ h => h) (by rfl) ?hy17_18 (by assumption) ?r17_18
            case hy17_18 => (intro w hSw; (try dsimp only at hSw); go_simp; try with_reducible rfl)
            try simp only [Act.put, List.setIfInBounds_toArray, List.set_cons_zero, List.set_cons_succ]
            change wpAnyH _ _ _ _ _ 0 #[true, true, true, true, true, true, true, true, true, true, true, true, true, true, true, true, true, true] _ _
            refine wpAnyH_done (by kernel_rfl) ?_ 0
            go_wp2
            go_roundg (la.length - (0 + 1))
            all_goals first
              | omega
              | exact ⟨0 + 1, by omega, rfl, by go_num, hU45.then hS0⟩
          · have hi1 : 0 < i := by omega
            obtain ⟨z, hz1, hz2⟩ := HPR.out hi1
            have hz3 := fun w6 (hU6 : Upd [] w5 w6) => hz1 w6 (hU4n.then hU6)
            have HZ := Lib.hid hz3
            clear hz3 hz1 hi0
            have HWR : Hid (IntKind.i64.wrap ((i : Int) - 1) = (i : Int) - 1 ∧ ((i : Int) - 1).toNat = i - 1 ∧ 0 ≤ (i : Int) - 1 ∧ (i : Int) - 1 < (la.length : Int)) := Lib.hid ⟨IntWalk.i64_in _ (by omega), by omega, by omega, by omega⟩
            have hkp : (0 : Int) < (i : Int) := by omega
            refine wp_region_held_drew (S := fun w' => Upd [] w5 w') (by kernel_rfl) (Upd.refl _ _).drew (fun hHeld => ?_)
            change wpAnyH _ _ _ _ _ 18 #[false, false, false, false, false, false, false, false, false, false, false, false, false, false, false, false, false, false] _ _
            refine heldTake (i := 0) (d := some 48) (v := ?v0_19) rfl rfl (by kernel_rfl) (by kernel_rfl) (by kernel_rfl) (fun _ _ _ h => h) (by rfl) ?hy0_19 (by assumption) ?r0_19
            case hy0_19 => (intro w hSw; have q0 := (HY.out.upd hSw (by simp)).cell 0 rfl; have q1 := (HY.out.upd hSw (by simp)).cell 1 rfl; go_simp; try with_reducible rfl)
            try simp only [Act.put, List.setIfInBounds_toArray, List.set_cons_zero, List.set_cons_succ]
            change wpAnyH _ _ _ _ _ 17 #[true, false, false, false, false, false, false, false, false, false, false, false, false, false, false, false, false, false] _ _
            refine wpAnyH_ready (rs := [1]) (by kernel_rfl) (by simp) ?_
            refine AllReadyH.cons rfl (fun K hK => ?_) AllReadyH.nil
            go_simp
            go_at_call 20
            refine (rright_any _ _ _).mono ?_
            rintro e v0 ⟨rfl, hV0⟩
            rw [show spanOk (y.1, y.2) = true from HOK.out]
            have hS0 : Upd [] w5 v0 := hHeld.then hV0
            go_wp2
            refine hK.out _ _ hS0 (fun hHeld => ?_)
            clear hK K
            try simp only [Act.put, List.setIfInBounds_toArray, List.set_cons_zero, List.set_cons_succ]
            change wpAnyH _ _ _ _ _ 16 #[true, true, false, false, false, false, false, false, false, false, false, false, false, false, false, false, false, false] _ _
            refine heldTake (i := 2) (d := some 50) (v := ?v2_21) rfl rfl (by kernel_rfl) (by kernel_rfl) (by kernel_rfl) (fun _ _ _ h => h) (by rfl) ?hy2_21 (by assumption) ?r2_21
            case hy2_21 => (intro w hSw; (try dsimp only at hSw); go_simp; try with_reducible rfl)
            try simp only [Act.put, List.setIfInBounds_toArray, List.set_cons_zero, List.set_cons_succ]
            change wpAnyH _ _ _ _ _ 15 #[true, true, true, false, false, false, false, false, false, false, false, false, false, false, false, false, false, false] _ _
            refine heldTake (i := 3) (d := some 51) (v := ?v3_22) rfl rfl (by kernel_rfl) (by kernel_rfl) (by kernel_rfl) (fun _ _ _ h => h) (by rfl) ?hy3_22 (by assumption) ?r3_22
            case hy3_22 => (intro w hSw; (try dsimp only at hSw); go_simp; try with_reducible rfl)
            try simp only [Act.put, List.setIfInBounds_toArray, List.set_cons_zero, List.set_cons_succ]
            change wpAnyH _ _ _ _ _ 14 #[true, true, true, true, false, false, false, false, false, false, false, false, false, false, false, false, false, false] _ _
            refine heldTake (i := 4) (d := some 52) (v := ?v4_23) rfl rfl (by kernel_rfl) (by kernel_rfl) (by kernel_rfl) (fun _ _ _ h => h) (by rfl) ?hy4_23 (by assumption) ?r4_23
            case hy4_23 => (intro w hSw; (try dsimp only at hSw); go_simp; try with_reducible rfl)
            try simp only [Act.put, List.setIfInBounds_toArray, List.set_cons_zero, List.set_cons_succ]
            change wpAnyH _ _ _ _ _ 13 #[true, true, true, true, true, false, false, false, false, false, false, false, false, false, false, false, false, false] _ _
            refine heldTake (i := 5) (d := some 53) (v := ?v5_24) rfl rfl (by kernel_rfl) (by kernel_rfl) (by kernel_rfl) (fun _ _ _ h => h) (by rfl) ?hy5_24 (by assumption) ?r5_24
            case hy5_24 => (intro w hSw; (try dsimp only at hSw); go_simp; try with_reducible rfl)
            try simp only [Act.put, List.setIfInBounds_toArray, List.set_cons_zero, List.set_cons_succ]
            change wpAnyH _ _ _ _ _ 12 #[true, true, true, true, true, true, false, false, false, false, false, false, false, false, false, false, false, false] _ _
            refine heldTake (i := 6) (d := some 54) (v := ?v6_25) rfl rfl (by kernel_rfl) (by kernel_rfl) (by kernel_rfl) (fun _ _ _ h => h) (by rfl) ?hy6_25 (by assumption) ?r6_25
            case hy6_25 => (intro w hSw; (try dsimp only at hSw); go_simp; try with_reducible rfl)
            try simp only [Act.put, List.setIfInBounds_toArray, List.set_cons_zero, List.set_cons_succ]
            change wpAnyH _ _ _ _ _ 11 #[true, true, true, true, true, true, true, false, false, false, false, false, false, false, false, false, false, false] _ _
            refine heldTake (i := 7) (d := some 55) (v := ?v7_26) rfl rfl (by kernel_rfl) (by kernel_rfl) (by kernel_rfl) (fun _ _ _ h => h) (by rfl) ?hy7_26 (by assumption) ?r7_26
            case hy7_26 => (intro w hSw; (try dsimp only at hSw); go_simp; try with_reducible rfl)
            try simp only [Act.put, List.setIfInBounds_toArray, List.set_cons_zero, List.set_cons_succ]
            change wpAnyH _ _ _ _ _ 10 #[true, true, true, true, true, true, true, true, false, false, false, false, false, false, false, false, false, false] _ _
            refine heldTake (i := 8) (d := some 56) (v := ?v8_27) rfl rfl (by kernel_rfl) (by kernel_rfl) (by kernel_rfl) (fun _ _ _ h => h) (by rfl) ?hy8_27 (by assumption) ?r8_27
            case hy8_27 => (intro w hSw; (try dsimp only at hSw); go_simp; try with_reducible rfl)
            try simp only [Act.put, List.setIfInBounds_toArray, List.set_cons_zero, List.set_cons_succ]
            change wpAnyH _ _ _ _ _ 9 #[true, true, true, true, true, true, true, true, true, false, false, false, false, false, false, false, false, false] _ _
            refine heldTake (i := 9) (d := some 57) (v := ?v9_28) rfl rfl (by kernel_rfl) (by kernel_rfl) (by kernel_rfl) (fun _ _ _ h => h) (by rfl) ?hy9_28 (by assumption) ?r9_28
            case hy9_28 => (intro w hSw; (try dsimp only at hSw); go_simp; try with_reducible rfl)
            try simp only [Act.put, List.setIfInBounds_toArray, List.set_cons_zero, List.set_cons_succ]
            change wpAnyH _ _ _ _ _ 8 #[true, true, true, true, true, true, true, true, true, true, false, false, false, false, false, false, false, false] _ _
            refine heldTake (i := 10) (d := some 58) (v := ?v10_29) rfl rfl (by kernel_rfl) (by kernel_rfl) (by kernel_rfl) (fun _ _ _ h => h) (by rfl) ?hy10_29 (by assumption) ?r10_29
            case hy10_29 => (intro w hSw; obtain ⟨q0, q1, q2, q3⟩ := HWR.out; have q4 : (1 : Int) ≤ (i : Int) := (by omega); simp only [q0]; go_simp; try with_reducible rfl)
            try simp only [Act.put, List.setIfInBounds_toArray, List.set_cons_zero, List.set_cons_succ]
            change wpAnyH _ _ _ _ _ 7 #[true, true, true, true, true, true, true, true, true, true, true, false, false, false, false, false, false, false] _ _
            refine heldTake (i := 11) (d := some 59) (v := ?v11_30) rfl rfl (by kernel_rfl) (by kernel_rfl) (by kernel_rfl) (fun _ _ _ h => h) (by rfl) ?hy11_30 (by assumption) ?r11_30
            case hy11_30 => (intro w hSw; (try dsimp only at hSw); go_simp; try with_reducible rfl)
            try simp only [Act.put, List.setIfInBounds_toArray, List.set_cons_zero, List.set_cons_succ]
            change wpAnyH _ _ _ _ _ 6 #[true, true, true, true, true, true, true, true, true, true, true, true, false, false, false, false, false, false] _ _
            refine heldTake (i := 12) (d := some 60) (v := ?v12_31) rfl rfl (by kernel_rfl) (by kernel_rfl) (by kernel_rfl) (fun _ _ _ h => h) (by rfl) ?hy12_31 (by assumption) ?r12_31
            case hy12_31 => (intro w hSw; have q0 := HZ.out _ hSw; go_simp; try with_reducible rfl)
            try simp only [Act.put, List.setIfInBounds_toArray, List.set_cons_zero, List.set_cons_succ]
            change wpAnyH _ _ _ _ _ 5 #[true, true, true, true, true, true, true, true, true, true, true, true, true, false, false, false, false, false] _ _
            refine heldTake (i := 13) (d := some 61) (v := ?v13_32) rfl rfl (by kernel_rfl) (by kernel_rfl) (by kernel_rfl) (fun _ _ _ h => h) (by rfl) ?hy13_32 (by assumption) ?r13_32
            case hy13_32 => (intro w hSw; (try dsimp only at hSw); go_simp; try with_reducible rfl)
            try simp only [Act.put, List.setIfInBounds_toArray, List.set_cons_zero, List.set_cons_succ]
            change wpAnyH _ _ _ _ _ 4 #[true, true, true, true, true, true, true, true, true, true, true, true, true, true, false, false, false, false] _ _
            refine heldTake (i := 14) (d := some 62) (v := ?v14_33) rfl rfl (by kernel_rfl) (by kernel_rfl) (by kernel_rfl) (fun _ _ _ h => h) (by rfl) ?hy14_33 (by assumption) ?r14_33
            case hy14_33 => (intro w hSw; have q0 := (HY.out.upd hSw (by simp)).cell 0 rfl; have q1 := (HY.out.upd hSw (by simp)).cell 1 rfl; go_simp; try with_reducible rfl)
            try simp only [Act.put, List.setIfInBounds_toArray, List.set_cons_zero, List.set_cons_succ]
            change wpAnyH _ _ _ _ _ 3 #[true, true, true, true, true, true, true, true, true, true, true, true, true, true, true, false, false, false] _ _
            refine heldTake (i := 15) (d := some 63) (v := ?v15_34) rfl rfl (by kernel_rfl) (by kernel_rfl) (by kernel_rfl) (fun _ _ _ h => h) (by rfl) ?hy15_34 (by assumption) ?r15_34
            case hy15_34 => (intro w hSw; (try dsimp only at hSw); go_simp; try with_reducible rfl)
            try simp only [Act.put, List.setIfInBounds_toArray, List.set_cons_zero, List.set_cons_succ]
            change wpAnyH _ _ _ _ _ 2 #[true, true, true, true, true, true, true, true, true, true, true, true, true, true, true, true, false, false] _ _
            refine heldTake (i := 16) (d := some 64) (v := ?v16_35) rfl rfl (by kernel_rfl) (by kernel_rfl) (by kernel_rfl) (fun _ _ _ h => h) (by rfl) ?hy16_35 (by assumption) ?r16_35
            case hy16_35 => (intro w hSw; (try dsimp only at hSw); go_simp; try with_reducible rfl)
            try simp only [Act.put, List.setIfInBounds_toArray, List.set_cons_zero, List.set_cons_succ]
            change wpAnyH _ _ _ _ _ 1 #[true, true, true, true, true, true, true, true, true, true, true, true, true, true, true, true, true, false] _ _
            refine heldTake (i := 17) (d := some 65) (v := ?v17_36) rfl rfl (by kernel_rfl) (by kernel_rfl) (by kernel_rfl) (fun _ _ _ h => h) (by rfl) ?hy17_36 (by assumption) ?r17_36
            case hy17_36 => (intro w hSw; (try dsimp only at hSw); go_simp; try with_reducible rfl)
            try simp only [Act.put, List.setIfInBounds_toArray, List.set_cons_zero, List.set_cons_succ]
            change wpAnyH _ _ _ _ _ 0 #[true, true, true, true, true, true, true, true, true, true, true, true, true, true, true, true, true, true] _ _
            refine wpAnyH_done (by kernel_rfl) ?_ 0
            go_wp2
            go_roundg (la.length - (i + 1))
            all_goals first
              | omega
              | exact ⟨i + 1, by omega, rfl, by go_num, hU45.then hS0⟩
        · obtain rfl : i = la.length := by omega
          have HT4 := Lib.hid (HT3.out.pure hU4)
          have hUw4 := Lib.hid (hUw3.out.then hU4)
          have hBX4 := Lib.hid (hBX3.out.upd hU4 (by simp))
          have HR4 := Lib.hid (HR1.out.upd hU4 (by simp))
          have HSB := Lib.hid (spans_any (some ⟨bb, 0, none⟩) la wr (HT4.out.b.inn (by omega)))
          clear HT3 hUw3 hBX3 HR1 hU4
          go_wp2_with fail
          refine HSB.out.mono ?_
          rintro e w6 ⟨v2, rfl, hR2, hU6, hg2⟩
          obtain ⟨r2, rc2, rfl⟩ := hR2.form
          have HSM := Lib.hid (same_any _ _ la la w6 (HR4.out.upd hU6 (by simp)) hR2 (by omega) (by omega))
          rw [show decide (la = la) = true by simp] at HSM
          have HT6 := Lib.hid (HT4.out.pure hU6)
          have hUw6 := Lib.hid (hUw4.out.then hU6)
          have hBX6 := Lib.hid (hBX4.out.upd hU6 (by simp))
          clear HT4 hUw4 hBX4 HR4 HSB hR2 hg2 hU6
          go_wp2_with fail
          refine HSM.out.mono ?_
          rintro e w7 ⟨rfl, hU7⟩
          have HN7 := Lib.hid (HT6.out.a.pure hU7)
          have hUw7 := Lib.hid (hUw6.out.then hU7)
          have hBX7 := Lib.hid (hBX6.out.upd hU7 (by simp))
          clear HT6 hUw6 hBX6 HSM hU7
          have x0 := hBX7.out.cell 0 rfl
          have x1 := hBX7.out.cell 1 rfl
          go_wp2_with fail
          refine (rright_any _ _ _).mono ?_
          rintro e w8 ⟨rfl, hU8⟩
          have HN8 := Lib.hid (HN7.out.pure hU8)
          have hUw8 := Lib.hid (hUw7.out.then hU8)
          have hBX8 := Lib.hid (hBX7.out.upd hU8 (by simp))
          clear HN7 hUw7 hBX7 hU8 x0 x1
          by_cases hx : spanOk x = true
          · rw [show spanOk (x.1, x.2) = true from hx]
            have HX := Lib.hid hx
            clear hx
            obtain ⟨hh1, hh2, hh3⟩ := holesP_spec HNM.out HX.out
            have hxb := spanOk_iff.1 HX.out
            have HTW := Lib.hid (show totW la - totW (cutP la x) = x.2 - x.1 - totW (holesP la x) ∧ 0 ≤ totW la ∧ totW la ≤ BIG ∧ 0 ≤ totW (cutP la x) ∧ totW (cutP la x) ≤ BIG ∧ 0 ≤ totW (holesP la x) ∧ totW (holesP la x) ≤ BIG ∧ 0 ≤ x.1 ∧ x.1 < x.2 ∧ x.2 ≤ BIG by
              rw [totW_norm HNM.out, totW_norm (cutP_norm x HNM.out), totW_norm hh1]
              have q1 := totalP_bd HNM.out
              have q2 := totalP_bd (cutP_norm x HNM.out)
              have q3 := totalP_bd hh1
              exact ⟨hh3, q1.1, q1.2, q2.1, q2.2, q3.1, q3.2, hxb.1, hxb.2.1, hxb.2.2⟩)
            have hhl : (holesP la x).length ≤ 100 := by
              have := (cutsP_norm la [x] (norm_one hxb)).2
              unfold holesP; rw [if_pos HX.out]; simp only [List.length_cons, List.length_nil] at this; omega
            clear hh1 hh2 hh3 hxb
            have HHO := Lib.hid (holes_any (some ⟨ba, 0, none⟩) la x w8 (HN8.out.inn (by omega)) (by omega))
            have x0 := hBX8.out.cell 0 rfl
            have x1 := hBX8.out.cell 1 rfl
            obtain ⟨lh, hlh⟩ : ∃ lh, holesP la x = lh := ⟨_, rfl⟩
            rw [hlh] at HHO hhl HTW
            clear hlh
            go_wp2_with fail
            refine HHO.out.mono ?_
            rintro e w9 ⟨vh, rfl, hRh, hU9, hgh⟩
            obtain ⟨rh, rch, rfl⟩ := hRh.form
            have HN9 := Lib.hid (HN8.out.pure hU9)
            have hUw9 := Lib.hid (hUw8.out.then hU9)
            have hBX9 := Lib.hid (hBX8.out.upd hU9 (by simp))
            have HRH := Lib.hid hRh
            clear HN8 hUw8 hBX8 hU9 x0 x1 hgh HHO hRh
            go_wp2
            go_loopg [11, 78] lh.length (fun g s11 s78 wr => ∃ j : Nat, j ≤ lh.length ∧ g = lh.length - j ∧ s11 = .int .i64 (totW (lh.take j)) ∧ s78 = .int .i64 (j : Nat) ∧ Upd [] w9 wr)
            case atStart => exact ⟨0, by omega, rfl, rfl, rfl, Upd.refl _ _⟩
            case round =>
              obtain ⟨j, hjl, rfl, rfl, rfl, hU10⟩ := hrel
              by_cases hc3 : j < lh.length
              · have hcz3 : (j : Int) < (lh.length : Int) := by omega
                obtain ⟨g1, d1, e1, hg1, hd1⟩ := HRH.out.form' (by omega)
                cases e1
                obtain ⟨p0, p1⟩ := flat_get lh j hc3
                have c0 := (HRH.out.upd hU10 (by simp)).cell (j * 2) p0
                have c1 := (HRH.out.upd hU10 (by simp)).cell (j * 2 + 1) p1
                have HTS : Hid (totW (lh.take (j + 1)) = wrap64 (totW (lh.take j) + wrap64 (lh[j].2 - lh[j].1))) := Lib.hid (by rw [List.take_succ_eq_append_getElem hc3, totW_snoc])
                clear p0 p1
                generalize lh[j] = y at *
                go_wp2
                go_roundg (lh.length - (j + 1))
                all_goals first
                  | omega
                  | exact ⟨j + 1, by omega, rfl, by rw [HTS.out], by go_num, hU10.alloc _⟩
              · obtain rfl : j = lh.length := by omega
                rw [List.take_length]
                have HN10 := Lib.hid (HN9.out.pure hU10)
                have hUw10 := Lib.hid (hUw9.out.then hU10)
                have hBX10 := Lib.hid (hBX9.out.upd hU10 (by simp))
                have HTO := Lib.hid (total_any (some ⟨ba, 0, none⟩) la wr (HN10.out.inn (by omega)))
                clear HN9 hUw9 hBX9 hU10 HRH
                obtain ⟨TH, hTH⟩ : ∃ TH, totW lh = TH := ⟨_, rfl⟩
                obtain ⟨TA, hTA⟩ : ∃ TA, totW la = TA := ⟨_, rfl⟩
                obtain ⟨TC, hTC⟩ : ∃ TC, totW (cutP la x) = TC := ⟨_, rfl⟩
                rw [hTH, hTA, hTC] at HTW
                rw [hTH]
                rw [hTA] at HTO
                have HTC := Lib.hid hTC
                clear hTH hTA hTC
                go_wp2_with fail
                refine HTO.out.mono ?_
                rintro e w11 ⟨rfl, hU11⟩
                have HN11 := Lib.hid (HN10.out.pure hU11)
                have hUw11 := Lib.hid (hUw10.out.then hU11)
                have hBX11 := Lib.hid (hBX10.out.upd hU11 (by simp))
                clear HN10 hUw10 hBX10 hU11 HTO
                have x0 := hBX11.out.cell 0 rfl
                have x1 := hBX11.out.cell 1 rfl
                go_wp2_with fail
                refine (cut_any ba va la x w11 HN11.out.set (by omega)).mono ?_
                rintro e w12 ⟨rfl, va2, k1, k2, k3⟩
                have hcl := cutP_len (x := x) HNM.out
                have HN12 := Lib.hid (HN11.out.step k1 k2 k3)
                have hba : w.heap.size ≠ ba := by have := HN11.out.gb; omega
                have hUw12 := Lib.hid (hUw11.out.trans k2 (fun k hk => by simp at hk; right; have := HN11.out.gb; omega))
                have hBX12 := Lib.hid (hBX11.out.upd k2 (by simpa using hba))
                clear HN11 hUw11 hBX11 k1 k2 k3 x0 x1
                have HTO := Lib.hid (fun w' (hU' : Upd [] w12 w') => total_any (some ⟨ba, 0, none⟩) (cutP la x) w' ((HN12.out.pure hU').inn (by omega)))
                have HME := Lib.hid (fun w' (hU' : Upd [] w12 w') => meets_any (some ⟨ba, 0, none⟩) (cutP la x) x w' ((HN12.out.pure hU').inn (by omega)))
                rw [meets_cut HNM.out HX.out] at HME
                rw [HTC.out] at HTO
                go_upto_region 27 with fail
                go_cut [111] (fun s w13 => s = .bool false ∧ Upd [] w12 w13)
                case first =>
                  refine wp_region_held_drew (S := fun w' => Upd [] w12 w') (by kernel_rfl) (Upd.refl _ _).drew (fun hHeld => ?_)
                  change wpAnyH _ _ _ _ _ 17 #[false, false, false, false, false, false, false, false, false, false, false, false, false, false, false, false, false] _ _
                  refine heldTake (i := 0) (d := some 95) (v := ?v0_37) rfl rfl (by kernel_rfl) (by kernel_rfl) (by kernel_rfl) (fun _ _ _ h => h) (by rfl) ?hy0_37 (by assumption) ?r0_37
                  case hy0_37 => (intro w hSw; (try dsimp only at hSw); go_simp; try with_reducible rfl)
                  try simp only [Act.put, List.setIfInBounds_toArray, List.set_cons_zero, List.set_cons_succ]
                  change wpAnyH _ _ _ _ _ 16 #[true, false, false, false, false, false, false, false, false, false, false, false, false, false, false, false, false] _ _
                  refine heldTake (i := 1) (d := some 96) (v := ?v1_38) rfl rfl (by kernel_rfl) (by kernel_rfl) (by kernel_rfl) (fun _ _ _ h => h) (by rfl) ?hy1_38 (by assumption) ?r1_38
                  case hy1_38 => (intro w hSw; (try dsimp only at hSw); go_simp; try with_reducible rfl)
                  try simp only [Act.put, List.setIfInBounds_toArray, List.set_cons_zero, List.set_cons_succ]
                  change wpAnyH _ _ _ _ _ 15 #[true, true, false, false, false, false, false, false, false, false, false, false, false, false, false, false, false] _ _
                  refine heldTake (i := 4) (d := some 99) (v := ?v4_39) rfl rfl (by kernel_rfl) (by kernel_rfl) (by kernel_rfl) (fun _ _ _ h => h) (by rfl) ?hy4_39 (by assumption) ?r4_39
                  case hy4_39 => (intro w hSw; (try dsimp only at hSw); go_simp; try with_reducible rfl)
                  try simp only [Act.put, List.setIfInBounds_toArray, List.set_cons_zero, List.set_cons_succ]
                  change wpAnyH _ _ _ _ _ 14 #[true, true, false, false, true, false, false, false, false, false, false, false, false, false, false, false, false] _ _
                  refine heldTake (i := 5) (d := some 100) (v := ?v5_40) rfl rfl (by kernel_rfl) (by kernel_rfl) (by kernel_rfl) (fun _ _ _ h => h) (by rfl) ?hy5_40 (by assumption) ?r5_40
                  case hy5_40 => (intro w hSw; have q0 := (hBX12.out.upd hSw (by simp)).cell 0 rfl; have q1 := (hBX12.out.upd hSw (by simp)).cell 1 rfl; go_simp; try with_reducible rfl)
                  try simp only [Act.put, List.setIfInBounds_toArray, List.set_cons_zero, List.set_cons_succ]
                  change wpAnyH _ _ _ _ _ 13 #[true, true, false, false, true, true, false, false, false, false, false, false, false, false, false, false, false] _ _
                  refine heldTake (i := 6) (d := some 101) (v := ?v6_41) rfl rfl (by kernel_rfl) (by kernel_rfl) (by kernel_rfl) (fun _ _ _ h => h) (by rfl) ?hy6_41 (by assumption) ?r6_41
                  case hy6_41 => (intro w hSw; (try dsimp only at hSw); go_simp; try with_reducible rfl)
                  try simp only [Act.put, List.setIfInBounds_toArray, List.set_cons_zero, List.set_cons_succ]
                  change wpAnyH _ _ _ _ _ 12 #[true, true, false, false, true, true, true, false, false, false, false, false, false, false, false, false, false] _ _
                  refine heldTake (i := 7) (d := some 102) (v := ?v7_42) rfl rfl (by kernel_rfl) (by kernel_rfl) (by kernel_rfl) (fun _ _ _ h => h) (by rfl) ?hy7_42 (by assumption) ?r7_42
                  case hy7_42 => (intro w hSw; have q0 := (hBX12.out.upd hSw (by simp)).cell 0 rfl; have q1 := (hBX12.out.upd hSw (by simp)).cell 1 rfl; go_simp; try with_reducible rfl)
                  try simp only [Act.put, List.setIfInBounds_toArray, List.set_cons_zero, List.set_cons_succ]
                  change wpAnyH _ _ _ _ _ 11 #[true, true, false, false, true, true, true, true, false, false, false, false, false, false, false, false, false] _ _
                  refine heldTake (i := 8) (d := some 103) (v := ?v8_43) rfl rfl (by kernel_rfl) (by kernel_rfl) (by kernel_rfl) (fun _ _ _ h => h) (by rfl) ?hy8_43 (by assumption) ?r8_43
                  case hy8_43 => (intro w hSw; (try dsimp only at hSw); go_simp; try with_reducible rfl)
                  try simp only [Act.put, List.setIfInBounds_toArray, List.set_cons_zero, List.set_cons_succ]
                  change wpAnyH _ _ _ _ _ 10 #[true, true, false, false, true, true, true, true, true, false, false, false, false, false, false, false, false] _ _
                  refine heldTake (i := 9) (d := some 104) (v := ?v9_44) rfl rfl (by kernel_rfl) (by kernel_rfl) (by kernel_rfl) (fun _ _ _ h => h) (by rfl) ?hy9_44 (by assumption) ?r9_44
                  case hy9_44 => (intro w hSw; (try dsimp only at hSw); go_simp; try with_reducible rfl)
                  try simp only [Act.put, List.setIfInBounds_toArray, List.set_cons_zero, List.set_cons_succ]
                  change wpAnyH _ _ _ _ _ 9 #[true, true, false, false, true, true, true, true, true, true, false, false, false, false, false, false, false] _ _
                  refine heldTake (i := 10) (d := some 105) (v := ?v10_45) rfl rfl (by kernel_rfl) (by kernel_rfl) (by kernel_rfl) (fun _ _ _ h => h) (by rfl) ?hy10_45 (by assumption) ?r10_45
                  case hy10_45 => (intro w hSw; (try dsimp only at hSw); go_simp; try with_reducible rfl)
                  try simp only [Act.put, List.setIfInBounds_toArray, List.set_cons_zero, List.set_cons_succ]
                  change wpAnyH _ _ _ _ _ 8 #[true, true, false, false, true, true, true, true, true, true, true, false, false, false, false, false, false] _ _
                  refine wpAnyH_ready (rs := [2]) (by kernel_rfl) (by simp) ?_
                  refine AllReadyH.cons rfl (fun K hK => ?_) AllReadyH.nil
                  go_simp
                  go_at_call 16
                  refine (HTO.out _ hHeld).mono ?_
                  rintro e v0 ⟨rfl, hV0⟩
                  have hS0 : Upd [] w12 v0 := hHeld.then hV0
                  go_wp2
                  refine hK.out _ _ hS0 (fun hHeld => ?_)
                  clear hK K
                  try simp only [Act.put, List.setIfInBounds_toArray, List.set_cons_zero, List.set_cons_succ]
                  change wpAnyH _ _ _ _ _ 7 #[true, true, true, false, true, true, true, true, true, true, true, false, false, false, false, false, false] _ _
                  refine heldTake (i := 3) (d := some 98) (v := ?v3_47) rfl rfl (by kernel_rfl) (by kernel_rfl) (by kernel_rfl) (fun _ _ _ h => h) (by rfl) ?hy3_47 (by assumption) ?r3_47
                  case hy3_47 => (intro w hSw; (try dsimp only at hSw); go_simp; try with_reducible rfl)
                  try simp only [Act.put, List.setIfInBounds_toArray, List.set_cons_zero, List.set_cons_succ]
                  change wpAnyH _ _ _ _ _ 6 #[true, true, true, true, true, true, true, true, true, true, true, false, false, false, false, false, false] _ _
                  refine heldTake (i := 11) (d := some 106) (v := (.bool false)) rfl rfl (by kernel_rfl) (by kernel_rfl) (by kernel_rfl) (fun _ _ _ h => h) (by rfl) ?hy11_48 (by assumption) ?r11_48
                  case hy11_48 => (intro w hSw; obtain ⟨q0, q1, q2, q3, q4, q5, q6, q7, q8, q9⟩ := HTW.out; unfold BIG at *; have e1 : IntKind.i64.wrap (TA - TC) = TA - TC := IntWalk.i64_in _ (by omega); have e2 : IntKind.i64.wrap (x.2 - x.1) = x.2 - x.1 := IntWalk.i64_in _ (by omega); have e3 : IntKind.i64.wrap (x.2 - x.1 - TH) = x.2 - x.1 - TH := IntWalk.i64_in _ (by omega); simp only [e1, e2, e3, q0]; go_simp)
                  try simp only [Act.put, List.setIfInBounds_toArray, List.set_cons_zero, List.set_cons_succ]
                  change wpAnyH _ _ _ _ _ 5 #[true, true, true, true, true, true, true, true, true, true, true, true, false, false, false, false, false] _ _
                  refine heldTake (i := 12) (d := some 107) (v := ?v12_49) rfl rfl (by kernel_rfl) (by kernel_rfl) (by kernel_rfl) (fun _ _ _ h => h) (by rfl) ?hy12_49 (by assumption) ?r12_49
                  case hy12_49 => (intro w hSw; (try dsimp only at hSw); go_simp; try with_reducible rfl)
                  try simp only [Act.put, List.setIfInBounds_toArray, List.set_cons_zero, List.set_cons_succ]
                  change wpAnyH _ _ _ _ _ 4 #[true, true, true, true, true, true, true, true, true, true, true, true, true, false, false, false, false] _ _
                  refine heldTake (i := 13) (d := some 108) (v := ?v13_50) rfl rfl (by kernel_rfl) (by kernel_rfl) (by kernel_rfl) (fun _ _ _ h => h) (by rfl) ?hy13_50 (by assumption) ?r13_50
                  case hy13_50 => (intro w hSw; (try dsimp only at hSw); go_simp; try with_reducible rfl)
                  try simp only [Act.put, List.setIfInBounds_toArray, List.set_cons_zero, List.set_cons_succ]
                  change wpAnyH _ _ _ _ _ 3 #[true, true, true, true, true, true, true, true, true, true, true, true, true, true, false, false, false] _ _
                  refine heldTake (i := 14) (d := some 109) (v := ?v14_51) rfl rfl (by kernel_rfl) (by kernel_rfl) (by kernel_rfl) (fun _ _ _ h => h) (by rfl) ?hy14_51 (by assumption) ?r14_51
                  case hy14_51 => (intro w hSw; have q0 := (hBX12.out.upd hSw (by simp)).cell 0 rfl; have q1 := (hBX12.out.upd hSw (by simp)).cell 1 rfl; go_simp; try with_reducible rfl)
                  try simp only [Act.put, List.setIfInBounds_toArray, List.set_cons_zero, List.set_cons_succ]
                  change wpAnyH _ _ _ _ _ 2 #[true, true, true, true, true, true, true, true, true, true, true, true, true, true, true, false, false] _ _
                  refine wpAnyH_ready (rs := [15]) (by kernel_rfl) (by simp) ?_
                  refine AllReadyH.cons rfl (fun K hK => ?_) AllReadyH.nil
                  go_simp
                  go_at_call 18
                  refine (HME.out _ hHeld).mono ?_
                  rintro e v1 ⟨rfl, hV1⟩
                  have hS1 : Upd [] w12 v1 := hHeld.then hV1
                  go_wp2
                  refine hK.out _ _ hS1 (fun hHeld => ?_)
                  clear hK K
                  try simp only [Act.put, List.setIfInBounds_toArray, List.set_cons_zero, List.set_cons_succ]
                  change wpAnyH _ _ _ _ _ 1 #[true, true, true, true, true, true, true, true, true, true, true, true, true, true, true, true, false] _ _
                  refine heldTake (i := 16) (d := some 111) (v := ?v16_53) rfl rfl (by kernel_rfl) (by kernel_rfl) (by kernel_rfl) (fun _ _ _ h => h) (by rfl) ?hy16_53 (by assumption) ?r16_53
                  case hy16_53 => (intro w hSw; (try dsimp only at hSw); go_simp; try with_reducible rfl)
                  try simp only [Act.put, List.setIfInBounds_toArray, List.set_cons_zero, List.set_cons_succ]
                  change wpAnyH _ _ _ _ _ 0 #[true, true, true, true, true, true, true, true, true, true, true, true, true, true, true, true, true] _ _
                  refine wpAnyH_done (by kernel_rfl) ?_ 0
                  go_wp2
                  go_meet
                  exact ⟨rfl, hS1⟩
                case rest =>
                  obtain ⟨rfl, hU13⟩ := hcut
                  have HN13 := Lib.hid (HN12.out.pure hU13)
                  have hUw13 := Lib.hid (hUw12.out.then hU13)
                  have hBX13 := Lib.hid (hBX12.out.upd hU13 (by simp))
                  clear HN12 hUw12 hBX12 hU13 HTO HME
                  have x0 := hBX13.out.cell 0 rfl
                  have x1 := hBX13.out.cell 1 rfl
                  go_wp2_with fail
                  refine (add_any ba va2 (cutP la x) x _ HN13.out.set (by omega)).mono ?_
                  rintro e w14 ⟨rfl, va3, k1, k2, k3⟩
                  have hcl2 := addP_len x (cutP la x)
                  have HN14 := Lib.hid (HN13.out.step k1 k2 k3)
                  have hUw14 := Lib.hid (hUw13.out.trans k2 (fun k hk => by simp at hk; right; have := HN13.out.gb; omega))
                  have hBX14 := Lib.hid (hBX13.out.upd k2 (by simpa using hba))
                  clear HN13 hUw13 hBX13 k1 k2 k3 x0 x1
                  have x0 := hBX14.out.cell 0 rfl
                  have x1 := hBX14.out.cell 1 rfl
                  have HHO := Lib.hid (holes_any (some ⟨ba, 0, none⟩) (addP (cutP la x) x) x w14 (HN14.out.inn (by omega)) (by omega))
                  rw [holes_none (cutP_norm x HNM.out) HX.out] at HHO
                  have hxb := spanOk_iff.1 HX.out
                  have HH1 := Lib.hid (has_in (cutP_norm x HNM.out) HX.out (p := x.1) (Int.le_refl _) hxb.2.1)
                  have HH2 := Lib.hid (has_in (cutP_norm x HNM.out) HX.out (p := x.2 - 1) (by omega) (by omega))
                  have hb1 : 0 < x.2 := by omega
                  have hb2 : x.2 ≤ 1099511627776 := hxb.2.2
                  clear hxb
                  go_wp2_with fail
                  refine HHO.out.mono ?_
                  rintro e w15 ⟨vh, rfl, hRh, hU15, hgh⟩
                  obtain ⟨rh9, rch9, rfl⟩ := hRh.form
                  have HN15 := Lib.hid (HN14.out.pure hU15)
                  have hUw15 := Lib.hid (hUw14.out.then hU15)
                  have hBX15 := Lib.hid (hBX14.out.upd hU15 (by simp))
                  clear HN14 hUw14 hBX14 hU15 x0 x1 hgh HHO hRh
                  have x0 := hBX15.out.cell 0 rfl
                  have x1 := hBX15.out.cell 1 rfl
                  simp only [List.length_nil]
                  go_wp2_with fail
                  refine (has_any (some ⟨ba, 0, none⟩) (addP (cutP la x) x) x.1 w15 (HN15.out.inn (by omega))).mono ?_
                  rintro e w16 ⟨rfl, hU16⟩
                  rw [HH1.out]
                  have HN16 := Lib.hid (HN15.out.pure hU16)
                  have hUw16 := Lib.hid (hUw15.out.then hU16)
                  have hBX16 := Lib.hid (hBX15.out.upd hU16 (by simp))
                  clear HN15 hUw15 hBX15 hU16 x0 x1
                  have x0 := hBX16.out.cell 0 rfl
                  have x1 := hBX16.out.cell 1 rfl
                  go_wp2_with fail
                  refine (has_any (some ⟨ba, 0, none⟩) (addP (cutP la x) x) (x.2 - 1) w16 (HN16.out.inn (by omega))).mono ?_
                  rintro e wt ⟨rfl, hU17⟩
                  rw [HH2.out]
                  have hUwt := Lib.hid (hUw16.out.then hU17)
                  have hBXt := Lib.hid (hBX16.out.upd hU17 (by simp))
                  clear HN16 hUw16 hBX16 hU17 x0 x1 HH1 HH2
                  have x0 := hBXt.out.cell 0 rfl
                  have x1 := hBXt.out.cell 1 rfl
                  go_wp2_with fail
                  refine (add_nil x _).mono ?_
                  rintro e wu ⟨rfl, hUu⟩
                  have hUwu := Lib.hid (hUwt.out.then hUu)
                  have hBXu := Lib.hid (hBXt.out.upd hUu (by simp))
                  clear hUwt hBXt hUu x0 x1
                  have x0 := hBXu.out.cell 0 rfl
                  have x1 := hBXu.out.cell 1 rfl
                  go_wp2_with fail
                  refine (cut_nil x _).mono ?_
                  rintro e wz ⟨rfl, hUz⟩
                  have hUwz := Lib.hid (hUwu.out.then hUz)
                  have hBXz := Lib.hid (hBXu.out.upd hUz (by simp))
                  clear hUwu hBXu hUz x0 x1
                  go_upto_region 35 with fail
                  have HH27 := Lib.hid (fun w0 => holes_any none [] x w0 (setIn_nil _ _) (by simp))
                  rw [holes_nil HX.out] at HH27
                  refine wp_region_held_drew (S := fun w' => Upd [] wz w') (by kernel_rfl) (Upd.refl _ _).drew (fun hHeld => ?_)
                  change wpAnyH _ _ _ _ _ 37 #[false, false, false, false, false, false, false, false, false, false, false, false, false, false, false, false, false, false, false, false, false, false, false, false, false, false, false, false, false, false, false, false, false, false, false, false, false] _ _
                  refine heldTake (i := 0) (d := some 141) (v := ?v0_54) rfl rfl (by kernel_rfl) (by kernel_rfl) (by kernel_rfl) (fun _ _ _ h => h) (by rfl) ?hy0_54 (by assumption) ?r0_54
                  case hy0_54 => (intro w hSw; (try dsimp only at hSw); go_simp; try with_reducible rfl)
                  try simp only [Act.put, List.setIfInBounds_toArray, List.set_cons_zero, List.set_cons_succ]
                  change wpAnyH _ _ _ _ _ 36 #[true, false, false, false, false, false, false, false, false, false, false, false, false, false, false, false, false, false, false, false, false, false, false, false, false, false, false, false, false, false, false, false, false, false, false, false, false] _ _
                  refine wpAnyH_ready (rs := [1]) (by kernel_rfl) (by simp) ?_
                  refine AllReadyH.cons rfl (fun K hK => ?_) AllReadyH.nil
                  go_simp
                  go_at_call 17
                  refine (has_any none [] 0 _ (setIn_nil _ _)).mono ?_
                  rintro e v1 ⟨rfl, hV1⟩
                  rw [show hasP [] 0 = false from rfl]
                  have hS1 : Upd [] wz v1 := hHeld.then hV1
                  go_wp2
                  refine hK.out _ _ hS1 (fun hHeld => ?_)
                  clear hK K
                  try simp only [Act.put, List.setIfInBounds_toArray, List.set_cons_zero, List.set_cons_succ]
                  change wpAnyH _ _ _ _ _ 35 #[true, true, false, false, false, false, false, false, false, false, false, false, false, false, false, false, false, false, false, false, false, false, false, false, false, false, false, false, false, false, false, false, false, false, false, false, false] _ _
                  refine heldTake (i := 2) (d := some 143) (v := ?v2_56) rfl rfl (by kernel_rfl) (by kernel_rfl) (by kernel_rfl) (fun _ _ _ h => h) (by rfl) ?hy2_56 (by assumption) ?r2_56
                  case hy2_56 => (intro w hSw; (try dsimp only at hSw); go_simp; try with_reducible rfl)
                  try simp only [Act.put, List.setIfInBounds_toArray, List.set_cons_zero, List.set_cons_succ]
                  change wpAnyH _ _ _ _ _ 34 #[true, true, true, false, false, false, false, false, false, false, false, false, false, false, false, false, false, false, false, false, false, false, false, false, false, false, false, false, false, false, false, false, false, false, false, false, false] _ _
                  refine heldTake (i := 3) (d := some 144) (v := ?v3_57) rfl rfl (by kernel_rfl) (by kernel_rfl) (by kernel_rfl) (fun _ _ _ h => h) (by rfl) ?hy3_57 (by assumption) ?r3_57
                  case hy3_57 => (intro w hSw; (try dsimp only at hSw); go_simp; try with_reducible rfl)
                  try simp only [Act.put, List.setIfInBounds_toArray, List.set_cons_zero, List.set_cons_succ]
                  change wpAnyH _ _ _ _ _ 33 #[true, true, true, true, false, false, false, false, false, false, false, false, false, false, false, false, false, false, false, false, false, false, false, false, false, false, false, false, false, false, false, false, false, false, false, false, false] _ _
                  refine heldTake (i := 4) (d := some 145) (v := ?v4_58) rfl rfl (by kernel_rfl) (by kernel_rfl) (by kernel_rfl) (fun _ _ _ h => h) (by rfl) ?hy4_58 (by assumption) ?r4_58
                  case hy4_58 => (intro w hSw; (try dsimp only at hSw); go_simp; try with_reducible rfl)
                  try simp only [Act.put, List.setIfInBounds_toArray, List.set_cons_zero, List.set_cons_succ]
                  change wpAnyH _ _ _ _ _ 32 #[true, true, true, true, true, false, false, false, false, false, false, false, false, false, false, false, false, false, false, false, false, false, false, false, false, false, false, false, false, false, false, false, false, false, false, false, false] _ _
                  refine heldTake (i := 5) (d := some 146) (v := ?v5_59) rfl rfl (by kernel_rfl) (by kernel_rfl) (by kernel_rfl) (fun _ _ _ h => h) (by rfl) ?hy5_59 (by assumption) ?r5_59
                  case hy5_59 => (intro w hSw; have q0 := (hBXz.out.upd hSw (by simp)).cell 0 rfl; have q1 := (hBXz.out.upd hSw (by simp)).cell 1 rfl; go_simp; try with_reducible rfl)
                  try simp only [Act.put, List.setIfInBounds_toArray, List.set_cons_zero, List.set_cons_succ]
                  change wpAnyH _ _ _ _ _ 31 #[true, true, true, true, true, true, false, false, false, false, false, false, false, false, false, false, false, false, false, false, false, false, false, false, false, false, false, false, false, false, false, false, false, false, false, false, false] _ _
                  refine wpAnyH_ready (rs := [6]) (by kernel_rfl) (by simp) ?_
                  refine AllReadyH.cons rfl (fun K hK => ?_) AllReadyH.nil
                  go_simp
                  go_at_call 18
                  refine (meets_any none [] x _ (setIn_nil _ _)).mono ?_
                  rintro e v6 ⟨rfl, hV6⟩
                  rw [show meetsP [] x = false from rfl]
                  have hS6 : Upd [] wz v6 := hHeld.then hV6
                  go_wp2
                  refine hK.out _ _ hS6 (fun hHeld => ?_)
                  clear hK K
                  try simp only [Act.put, List.setIfInBounds_toArray, List.set_cons_zero, List.set_cons_succ]
                  change wpAnyH _ _ _ _ _ 30 #[true, true, true, true, true, true, true, false, false, false, false, false, false, false, false, false, false, false, false, false, false, false, false, false, false, false, false, false, false, false, false, false, false, false, false, false, false] _ _
                  refine heldTake (i := 7) (d := some 148) (v := ?v7_61) rfl rfl (by kernel_rfl) (by kernel_rfl) (by kernel_rfl) (fun _ _ _ h => h) (by rfl) ?hy7_61 (by assumption) ?r7_61
                  case hy7_61 => (intro w hSw; (try dsimp only at hSw); go_simp; try with_reducible rfl)
                  try simp only [Act.put, List.setIfInBounds_toArray, List.set_cons_zero, List.set_cons_succ]
                  change wpAnyH _ _ _ _ _ 29 #[true, true, true, true, true, true, true, true, false, false, false, false, false, false, false, false, false, false, false, false, false, false, false, false, false, false, false, false, false, false, false, false, false, false, false, false, false] _ _
                  refine heldTake (i := 8) (d := some 149) (v := ?v8_62) rfl rfl (by kernel_rfl) (by kernel_rfl) (by kernel_rfl) (fun _ _ _ h => h) (by rfl) ?hy8_62 (by assumption) ?r8_62
                  case hy8_62 => (intro w hSw; (try dsimp only at hSw); go_simp; try with_reducible rfl)
                  try simp only [Act.put, List.setIfInBounds_toArray, List.set_cons_zero, List.set_cons_succ]
                  change wpAnyH _ _ _ _ _ 28 #[true, true, true, true, true, true, true, true, true, false, false, false, false, false, false, false, false, false, false, false, false, false, false, false, false, false, false, false, false, false, false, false, false, false, false, false, false] _ _
                  refine heldTake (i := 9) (d := some 150) (v := ?v9_63) rfl rfl (by kernel_rfl) (by kernel_rfl) (by kernel_rfl) (fun _ _ _ h => h) (by rfl) ?hy9_63 (by assumption) ?r9_63
                  case hy9_63 => (intro w hSw; (try dsimp only at hSw); go_simp; try with_reducible rfl)
                  try simp only [Act.put, List.setIfInBounds_toArray, List.set_cons_zero, List.set_cons_succ]
                  change wpAnyH _ _ _ _ _ 27 #[true, true, true, true, true, true, true, true, true, true, false, false, false, false, false, false, false, false, false, false, false, false, false, false, false, false, false, false, false, false, false, false, false, false, false, false, false] _ _
                  refine heldTake (i := 10) (d := some 151) (v := ?v10_64) rfl rfl (by kernel_rfl) (by kernel_rfl) (by kernel_rfl) (fun _ _ _ h => h) (by rfl) ?hy10_64 (by assumption) ?r10_64
                  case hy10_64 => (intro w hSw; (try dsimp only at hSw); go_simp; try with_reducible rfl)
                  try simp only [Act.put, List.setIfInBounds_toArray, List.set_cons_zero, List.set_cons_succ]
                  change wpAnyH _ _ _ _ _ 26 #[true, true, true, true, true, true, true, true, true, true, true, false, false, false, false, false, false, false, false, false, false, false, false, false, false, false, false, false, false, false, false, false, false, false, false, false, false] _ _
                  refine wpAnyH_ready (rs := [11]) (by kernel_rfl) (by simp) ?_
                  refine AllReadyH.cons rfl (fun K hK => ?_) AllReadyH.nil
                  go_simp
                  go_at_call 14
                  refine (spans_any none [] _ (setIn_nil _ _)).mono ?_
                  rintro e v11 ⟨sv11, rfl, hR11, hV11, hg11⟩
                  obtain ⟨r11, rc11, rfl⟩ := hR11.form
                  simp only [List.length_nil]
                  have hS11 : Upd [] wz v11 := hHeld.then hV11
                  go_wp2
                  refine hK.out _ _ hS11 (fun hHeld => ?_)
                  clear hK K
                  try simp only [Act.put, List.setIfInBounds_toArray, List.set_cons_zero, List.set_cons_succ]
                  change wpAnyH _ _ _ _ _ 25 #[true, true, true, true, true, true, true, true, true, true, true, true, false, false, false, false, false, false, false, false, false, false, false, false, false, false, false, false, false, false, false, false, false, false, false, false, false] _ _
                  refine heldTake (i := 12) (d := some 153) (v := ?v12_66) rfl rfl (by kernel_rfl) (by kernel_rfl) (by kernel_rfl) (fun _ _ _ h => h) (by rfl) ?hy12_66 (by assumption) ?r12_66
                  case hy12_66 => (intro w hSw; (try dsimp only at hSw); go_simp; try with_reducible rfl)
                  try simp only [Act.put, List.setIfInBounds_toArray, List.set_cons_zero, List.set_cons_succ]
                  change wpAnyH _ _ _ _ _ 24 #[true, true, true, true, true, true, true, true, true, true, true, true, true, false, false, false, false, false, false, false, false, false, false, false, false, false, false, false, false, false, false, false, false, false, false, false, false] _ _
                  refine heldTake (i := 13) (d := some 154) (v := ?v13_67) rfl rfl (by kernel_rfl) (by kernel_rfl) (by kernel_rfl) (fun _ _ _ h => h) (by rfl) ?hy13_67 (by assumption) ?r13_67
                  case hy13_67 => (intro w hSw; (try dsimp only at hSw); go_simp; try with_reducible rfl)
                  try simp only [Act.put, List.setIfInBounds_toArray, List.set_cons_zero, List.set_cons_succ]
                  change wpAnyH _ _ _ _ _ 23 #[true, true, true, true, true, true, true, true, true, true, true, true, true, true, false, false, false, false, false, false, false, false, false, false, false, false, false, false, false, false, false, false, false, false, false, false, false] _ _
                  refine heldTake (i := 14) (d := some 155) (v := ?v14_68) rfl rfl (by kernel_rfl) (by kernel_rfl) (by kernel_rfl) (fun _ _ _ h => h) (by rfl) ?hy14_68 (by assumption) ?r14_68
                  case hy14_68 => (intro w hSw; (try dsimp only at hSw); go_simp; try with_reducible rfl)
                  try simp only [Act.put, List.setIfInBounds_toArray, List.set_cons_zero, List.set_cons_succ]
                  change wpAnyH _ _ _ _ _ 22 #[true, true, true, true, true, true, true, true, true, true, true, true, true, true, true, false, false, false, false, false, false, false, false, false, false, false, false, false, false, false, false, false, false, false, false, false, false] _ _
                  refine heldTake (i := 15) (d := some 156) (v := ?v15_69) rfl rfl (by kernel_rfl) (by kernel_rfl) (by kernel_rfl) (fun _ _ _ h => h) (by rfl) ?hy15_69 (by assumption) ?r15_69
                  case hy15_69 => (intro w hSw; (try dsimp only at hSw); go_simp; try with_reducible rfl)
                  try simp only [Act.put, List.setIfInBounds_toArray, List.set_cons_zero, List.set_cons_succ]
                  change wpAnyH _ _ _ _ _ 21 #[true, true, true, true, true, true, true, true, true, true, true, true, true, true, true, true, false, false, false, false, false, false, false, false, false, false, false, false, false, false, false, false, false, false, false, false, false] _ _
                  refine heldTake (i := 16) (d := some 157) (v := ?v16_70) rfl rfl (by kernel_rfl) (by kernel_rfl) (by kernel_rfl) (fun _ _ _ h => h) (by rfl) ?hy16_70 (by assumption) ?r16_70
                  case hy16_70 => (intro w hSw; (try dsimp only at hSw); go_simp; try with_reducible rfl)
                  try simp only [Act.put, List.setIfInBounds_toArray, List.set_cons_zero, List.set_cons_succ]
                  change wpAnyH _ _ _ _ _ 20 #[true, true, true, true, true, true, true, true, true, true, true, true, true, true, true, true, true, false, false, false, false, false, false, false, false, false, false, false, false, false, false, false, false, false, false, false, false] _ _
                  refine wpAnyH_ready (rs := [17]) (by kernel_rfl) (by simp) ?_
                  refine AllReadyH.cons rfl (fun K hK => ?_) AllReadyH.nil
                  go_simp
                  go_at_call 16
                  refine (total_any none [] _ (setIn_nil _ _)).mono ?_
                  rintro e v17 ⟨rfl, hV17⟩
                  rw [show totW [] = 0 from rfl]
                  have hS17 : Upd [] wz v17 := hHeld.then hV17
                  go_wp2
                  refine hK.out _ _ hS17 (fun hHeld => ?_)
                  clear hK K
                  try simp only [Act.put, List.setIfInBounds_toArray, List.set_cons_zero, List.set_cons_succ]
                  change wpAnyH _ _ _ _ _ 19 #[true, true, true, true, true, true, true, true, true, true, true, true, true, true, true, true, true, true, false, false, false, false, false, false, false, false, false, false, false, false, false, false, false, false, false, false, false] _ _
                  refine heldTake (i := 18) (d := some 159) (v := ?v18_72) rfl rfl (by kernel_rfl) (by kernel_rfl) (by kernel_rfl) (fun _ _ _ h => h) (by rfl) ?hy18_72 (by assumption) ?r18_72
                  case hy18_72 => (intro w hSw; (try dsimp only at hSw); go_simp; try with_reducible rfl)
                  try simp only [Act.put, List.setIfInBounds_toArray, List.set_cons_zero, List.set_cons_succ]
                  change wpAnyH _ _ _ _ _ 18 #[true, true, true, true, true, true, true, true, true, true, true, true, true, true, true, true, true, true, true, false, false, false, false, false, false, false, false, false, false, false, false, false, false, false, false, false, false] _ _
                  refine heldTake (i := 19) (d := some 160) (v := ?v19_73) rfl rfl (by kernel_rfl) (by kernel_rfl) (by kernel_rfl) (fun _ _ _ h => h) (by rfl) ?hy19_73 (by assumption) ?r19_73
                  case hy19_73 => (intro w hSw; (try dsimp only at hSw); go_simp; try with_reducible rfl)
                  try simp only [Act.put, List.setIfInBounds_toArray, List.set_cons_zero, List.set_cons_succ]
                  change wpAnyH _ _ _ _ _ 17 #[true, true, true, true, true, true, true, true, true, true, true, true, true, true, true, true, true, true, true, true, false, false, false, false, false, false, false, false, false, false, false, false, false, false, false, false, false] _ _
                  refine heldTake (i := 20) (d := some 161) (v := ?v20_74) rfl rfl (by kernel_rfl) (by kernel_rfl) (by kernel_rfl) (fun _ _ _ h => h) (by rfl) ?hy20_74 (by assumption) ?r20_74
                  case hy20_74 => (intro w hSw; (try dsimp only at hSw); go_simp; try with_reducible rfl)
                  try simp only [Act.put, List.setIfInBounds_toArray, List.set_cons_zero, List.set_cons_succ]
                  change wpAnyH _ _ _ _ _ 16 #[true, true, true, true, true, true, true, true, true, true, true, true, true, true, true, true, true, true, true, true, true, false, false, false, false, false, false, false, false, false, false, false, false, false, false, false, false] _ _
                  refine heldTake (i := 21) (d := some 162) (v := ?v21_75) rfl rfl (by kernel_rfl) (by kernel_rfl) (by kernel_rfl) (fun _ _ _ h => h) (by rfl) ?hy21_75 (by assumption) ?r21_75
                  case hy21_75 => (intro w hSw; have q0 := (hBXz.out.upd hSw (by simp)).cell 0 rfl; have q1 := (hBXz.out.upd hSw (by simp)).cell 1 rfl; go_simp; try with_reducible rfl)
                  try simp only [Act.put, List.setIfInBounds_toArray, List.set_cons_zero, List.set_cons_succ]
                  change wpAnyH _ _ _ _ _ 15 #[true, true, true, true, true, true, true, true, true, true, true, true, true, true, true, true, true, true, true, true, true, true, false, false, false, false, false, false, false, false, false, false, false, false, false, false, false] _ _
                  refine wpAnyH_ready (rs := [22]) (by kernel_rfl) (by simp) ?_
                  refine AllReadyH.cons rfl (fun K hK => ?_) AllReadyH.nil
                  go_simp
                  go_at_call 20
                  refine (rright_any _ _ _).mono ?_
                  rintro e v22 ⟨rfl, hV22⟩
                  rw [show spanOk (x.1, x.2) = true from HX.out]
                  have hS22 : Upd [] wz v22 := hHeld.then hV22
                  go_wp2
                  refine hK.out _ _ hS22 (fun hHeld => ?_)
                  clear hK K
                  try simp only [Act.put, List.setIfInBounds_toArray, List.set_cons_zero, List.set_cons_succ]
                  change wpAnyH _ _ _ _ _ 14 #[true, true, true, true, true, true, true, true, true, true, true, true, true, true, true, true, true, true, true, true, true, true, true, false, false, false, false, false, false, false, false, false, false, false, false, false, false] _ _
                  refine heldTake (i := 23) (d := some 164) (v := ?v23_77) rfl rfl (by kernel_rfl) (by kernel_rfl) (by kernel_rfl) (fun _ _ _ h => h) (by rfl) ?hy23_77 (by assumption) ?r23_77
                  case hy23_77 => (intro w hSw; (try dsimp only at hSw); go_simp; try with_reducible rfl)
                  try simp only [Act.put, List.setIfInBounds_toArray, List.set_cons_zero, List.set_cons_succ]
                  change wpAnyH _ _ _ _ _ 13 #[true, true, true, true, true, true, true, true, true, true, true, true, true, true, true, true, true, true, true, true, true, true, true, true, false, false, false, false, false, false, false, false, false, false, false, false, false] _ _
                  refine heldTake (i := 24) (d := some 165) (v := ?v24_78) rfl rfl (by kernel_rfl) (by kernel_rfl) (by kernel_rfl) (fun _ _ _ h => h) (by rfl) ?hy24_78 (by assumption) ?r24_78
                  case hy24_78 => (intro w hSw; (try dsimp only at hSw); go_simp; try with_reducible rfl)
                  try simp only [Act.put, List.setIfInBounds_toArray, List.set_cons_zero, List.set_cons_succ]
                  change wpAnyH _ _ _ _ _ 12 #[true, true, true, true, true, true, true, true, true, true, true, true, true, true, true, true, true, true, true, true, true, true, true, true, true, false, false, false, false, false, false, false, false, false, false, false, false] _ _
                  refine heldTake (i := 25) (d := some 166) (v := ?v25_79) rfl rfl (by kernel_rfl) (by kernel_rfl) (by kernel_rfl) (fun _ _ _ h => h) (by rfl) ?hy25_79 (by assumption) ?r25_79
                  case hy25_79 => (intro w hSw; (try dsimp only at hSw); go_simp; try with_reducible rfl)
                  try simp only [Act.put, List.setIfInBounds_toArray, List.set_cons_zero, List.set_cons_succ]
                  change wpAnyH _ _ _ _ _ 11 #[true, true, true, true, true, true, true, true, true, true, true, true, true, true, true, true, true, true, true, true, true, true, true, true, true, true, false, false, false, false, false, false, false, false, false, false, false] _ _
                  refine heldTake (i := 26) (d := some 167) (v := ?v26_80) rfl rfl (by kernel_rfl) (by kernel_rfl) (by kernel_rfl) (fun _ _ _ h => h) (by rfl) ?hy26_80 (by assumption) ?r26_80
                  case hy26_80 => (intro w hSw; have q0 := (hBXz.out.upd hSw (by simp)).cell 0 rfl; have q1 := (hBXz.out.upd hSw (by simp)).cell 1 rfl; go_simp; try with_reducible rfl)
                  try simp only [Act.put, List.setIfInBounds_toArray, List.set_cons_zero, List.set_cons_succ]
                  change wpAnyH _ _ _ _ _ 10 #[true, true, true, true, true, true, true, true, true, true, true, true, true, true, true, true, true, true, true, true, true, true, true, true, true, true, true, false, false, false, false, false, false, false, false, false, false] _ _
                  refine heldTake (i := 28) (d := some 169) (v := ?v28_81) rfl rfl (by kernel_rfl) (by kernel_rfl) (by kernel_rfl) (fun _ _ _ h => h) (by rfl) ?hy28_81 (by assumption) ?r28_81
                  case hy28_81 => (intro w hSw; have q0 := (hBXz.out.upd hSw (by simp)).cell 0 rfl; have q1 := (hBXz.out.upd hSw (by simp)).cell 1 rfl; go_simp; try with_reducible rfl)
                  try simp only [Act.put, List.setIfInBounds_toArray, List.set_cons_zero, List.set_cons_succ]
                  change wpAnyH _ _ _ _ _ 9 #[true, true, true, true, true, true, true, true, true, true, true, true, true, true, true, true, true, true, true, true, true, true, true, true, true, true, true, false, true, false, false, false, false, false, false, false, false] _ _
                  refine wpAnyH_ready (rs := [27, 29]) (by kernel_rfl) (by simp) ?_
                  refine AllReadyH.cons rfl (fun K hK => ?_) (AllReadyH.cons rfl (fun K hK => ?_) AllReadyH.nil)
                  · skip
                    go_simp
                    go_at_call 15
                    refine (HH27.out _).mono ?_
                    rintro e v27 ⟨sv27, rfl, hR27, hV27, hg27⟩
                    obtain ⟨r27, rc27, rfl⟩ := hR27.form
                    have hS27 : Upd [] wz v27 := hHeld.then hV27
                    go_wp2
                    refine hK.out _ _ hS27 (fun hHeld => ?_)
                    clear hK K
                    try simp only [Act.put, List.setIfInBounds_toArray, List.set_cons_zero, List.set_cons_succ]
                    change wpAnyH _ _ _ _ _ 8 #[true, true, true, true, true, true, true, true, true, true, true, true, true, true, true, true, true, true, true, true, true, true, true, true, true, true, true, true, true, false, false, false, false, false, false, false, false] _ _
                    refine wpAnyH_ready (rs := [29]) (by kernel_rfl) (by simp) ?_
                    refine AllReadyH.cons rfl (fun K hK => ?_) AllReadyH.nil
                    go_simp
                    have HB29 := Lib.hid (Row.new v27 [.int .i64 x.1, .int .i64 x.2] 24 1 2 (by unfold maxLen; omega) rfl)
                    have HR27 := Lib.hid (hR27.alloc (.cells #[.int .i64 x.1, .int .i64 x.2] 24))
                    have hS29 := hHeld.alloc (.cells #[.int .i64 x.1, .int .i64 x.2] 24)
                    refine hK.out _ _ hS29 (fun hHeld => ?_)
                    clear hK K
                    try simp only [Act.put, List.setIfInBounds_toArray, List.set_cons_zero, List.set_cons_succ]
                    change wpAnyH _ _ _ _ _ 7 #[true, true, true, true, true, true, true, true, true, true, true, true, true, true, true, true, true, true, true, true, true, true, true, true, true, true, true, true, true, true, false, false, false, false, false, false, false] _ _
                    refine wpAnyH_ready (rs := [30]) (by kernel_rfl) (by simp) ?_
                    refine AllReadyH.cons rfl (fun K hK => ?_) AllReadyH.nil
                    go_simp
                    go_at_call 13
                    refine (same_any _ _ [x] [x] _ HR27.out HB29.out (by simp) (by simp)).mono ?_
                    rintro e v30 ⟨rfl, hV30⟩
                    rw [show decide ([x] = [x]) = true by simp]
                    have hS30 : Upd [] wz v30 := hHeld.then hV30
                    go_wp2
                    refine hK.out _ _ hS30 (fun hHeld => ?_)
                    clear hK K
                    try simp only [Act.put, List.setIfInBounds_toArray, List.set_cons_zero, List.set_cons_succ]
                    change wpAnyH _ _ _ _ _ 6 #[true, true, true, true, true, true, true, true, true, true, true, true, true, true, true, true, true, true, true, true, true, true, true, true, true, true, true, true, true, true, true, false, false, false, false, false, false] _ _
                    refine heldTake (i := 31) (d := some 172) (v := ?v31_85) rfl rfl (by kernel_rfl) (by kernel_rfl) (by kernel_rfl) (fun _ _ _ h => h) (by rfl) ?hy31_85 (by assumption) ?r31_85
                    case hy31_85 => (intro w hSw; (try dsimp only at hSw); go_simp; try with_reducible rfl)
                    try simp only [Act.put, List.setIfInBounds_toArray, List.set_cons_zero, List.set_cons_succ]
                    change wpAnyH _ _ _ _ _ 5 #[true, true, true, true, true, true, true, true, true, true, true, true, true, true, true, true, true, true, true, true, true, true, true, true, true, true, true, true, true, true, true, true, false, false, false, false, false] _ _
                    refine heldTake (i := 32) (d := some 173) (v := ?v32_86) rfl rfl (by kernel_rfl) (by kernel_rfl) (by kernel_rfl) (fun _ _ _ h => h) (by rfl) ?hy32_86 (by assumption) ?r32_86
                    case hy32_86 => (intro w hSw; (try dsimp only at hSw); go_simp; try with_reducible rfl)
                    try simp only [Act.put, List.setIfInBounds_toArray, List.set_cons_zero, List.set_cons_succ]
                    change wpAnyH _ _ _ _ _ 4 #[true, true, true, true, true, true, true, true, true, true, true, true, true, true, true, true, true, true, true, true, true, true, true, true, true, true, true, true, true, true, true, true, true, false, false, false, false] _ _
                    refine heldTake (i := 33) (d := some 174) (v := ?v33_87) rfl rfl (by kernel_rfl) (by kernel_rfl) (by kernel_rfl) (fun _ _ _ h => h) (by rfl) ?hy33_87 (by assumption) ?r33_87
                    case hy33_87 => (intro w hSw; (try dsimp only at hSw); go_simp; try with_reducible rfl)
                    try simp only [Act.put, List.setIfInBounds_toArray, List.set_cons_zero, List.set_cons_succ]
                    change wpAnyH _ _ _ _ _ 3 #[true, true, true, true, true, true, true, true, true, true, true, true, true, true, true, true, true, true, true, true, true, true, true, true, true, true, true, true, true, true, true, true, true, true, false, false, false] _ _
                    refine wpAnyH_ready (rs := [34]) (by kernel_rfl) (by simp) ?_
                    refine AllReadyH.cons rfl (fun K hK => ?_) AllReadyH.nil
                    go_simp
                    go_at_call 6
                    refine (lives24 _).mono ?_
                    rintro e v34 ⟨rfl, hV34⟩
                    have hS34 : Upd [] wz v34 := hHeld.then hV34
                    go_wp2
                    refine hK.out _ _ hS34 (fun hHeld => ?_)
                    clear hK K
                    try simp only [Act.put, List.setIfInBounds_toArray, List.set_cons_zero, List.set_cons_succ]
                    change wpAnyH _ _ _ _ _ 2 #[true, true, true, true, true, true, true, true, true, true, true, true, true, true, true, true, true, true, true, true, true, true, true, true, true, true, true, true, true, true, true, true, true, true, true, false, false] _ _
                    refine heldTake (i := 35) (d := some 176) (v := ?v35_89) rfl rfl (by kernel_rfl) (by kernel_rfl) (by kernel_rfl) (fun _ _ _ h => h) (by rfl) ?hy35_89 (by assumption) ?r35_89
                    case hy35_89 => (intro w hSw; (try dsimp only at hSw); go_simp; try with_reducible rfl)
                    try simp only [Act.put, List.setIfInBounds_toArray, List.set_cons_zero, List.set_cons_succ]
                    change wpAnyH _ _ _ _ _ 1 #[true, true, true, true, true, true, true, true, true, true, true, true, true, true, true, true, true, true, true, true, true, true, true, true, true, true, true, true, true, true, true, true, true, true, true, true, false] _ _
                    refine heldTake (i := 36) (d := some 4) (v := ?v36_90) rfl rfl (by kernel_rfl) (by kernel_rfl) (by kernel_rfl) (fun _ _ _ h => h) (by rfl) ?hy36_90 (by assumption) ?r36_90
                    case hy36_90 => (intro w hSw; (try dsimp only at hSw); go_simp; try with_reducible rfl)
                    try simp only [Act.put, List.setIfInBounds_toArray, List.set_cons_zero, List.set_cons_succ]
                    change wpAnyH _ _ _ _ _ 0 #[true, true, true, true, true, true, true, true, true, true, true, true, true, true, true, true, true, true, true, true, true, true, true, true, true, true, true, true, true, true, true, true, true, true, true, true, true] _ _
                    refine wpAnyH_done (by kernel_rfl) ?_ 0
                    go_wp2
                    go_ret
                    exact ⟨rfl, hUwz.out.then hS34⟩
                  · skip
                    go_simp
                    have HB29 := Lib.hid (Row.new v22 [.int .i64 x.1, .int .i64 x.2] 24 1 2 (by unfold maxLen; omega) rfl)
                    have hS29 := hHeld.alloc (.cells #[.int .i64 x.1, .int .i64 x.2] 24)
                    refine hK.out _ _ hS29 (fun hHeld => ?_)
                    clear hK K
                    try simp only [Act.put, List.setIfInBounds_toArray, List.set_cons_zero, List.set_cons_succ]
                    change wpAnyH _ _ _ _ _ 8 #[true, true, true, true, true, true, true, true, true, true, true, true, true, true, true, true, true, true, true, true, true, true, true, true, true, true, true, false, true, true, false, false, false, false, false, false, false] _ _
                    refine wpAnyH_ready (rs := [27]) (by kernel_rfl) (by simp) ?_
                    refine AllReadyH.cons rfl (fun K hK => ?_) AllReadyH.nil
                    go_simp
                    go_at_call 15
                    refine (HH27.out _).mono ?_
                    rintro e v27 ⟨sv27, rfl, hR27, hV27, hg27⟩
                    obtain ⟨r27, rc27, rfl⟩ := hR27.form
                    have HB27 := Lib.hid (HB29.out.upd hV27 (by simp))
                    have HR27 := Lib.hid hR27
                    have hS27 : Upd [] wz v27 := hHeld.then hV27
                    go_wp2
                    refine hK.out _ _ hS27 (fun hHeld => ?_)
                    clear hK K
                    try simp only [Act.put, List.setIfInBounds_toArray, List.set_cons_zero, List.set_cons_succ]
                    change wpAnyH _ _ _ _ _ 7 #[true, true, true, true, true, true, true, true, true, true, true, true, true, true, true, true, true, true, true, true, true, true, true, true, true, true, true, true, true, true, false, false, false, false, false, false, false] _ _
                    refine wpAnyH_ready (rs := [30]) (by kernel_rfl) (by simp) ?_
                    refine AllReadyH.cons rfl (fun K hK => ?_) AllReadyH.nil
                    go_simp
                    go_at_call 13
                    refine (same_any _ _ [x] [x] _ HR27.out HB27.out (by simp) (by simp)).mono ?_
                    rintro e v30 ⟨rfl, hV30⟩
                    rw [show decide ([x] = [x]) = true by simp]
                    have hS30 : Upd [] wz v30 := hHeld.then hV30
                    go_wp2
                    refine hK.out _ _ hS30 (fun hHeld => ?_)
                    clear hK K
                    try simp only [Act.put, List.setIfInBounds_toArray, List.set_cons_zero, List.set_cons_succ]
                    change wpAnyH _ _ _ _ _ 6 #[true, true, true, true, true, true, true, true, true, true, true, true, true, true, true, true, true, true, true, true, true, true, true, true, true, true, true, true, true, true, true, false, false, false, false, false, false] _ _
                    refine heldTake (i := 31) (d := some 172) (v := ?v31_93) rfl rfl (by kernel_rfl) (by kernel_rfl) (by kernel_rfl) (fun _ _ _ h => h) (by rfl) ?hy31_93 (by assumption) ?r31_93
                    case hy31_93 => (intro w hSw; (try dsimp only at hSw); go_simp; try with_reducible rfl)
                    try simp only [Act.put, List.setIfInBounds_toArray, List.set_cons_zero, List.set_cons_succ]
                    change wpAnyH _ _ _ _ _ 5 #[true, true, true, true, true, true, true, true, true, true, true, true, true, true, true, true, true, true, true, true, true, true, true, true, true, true, true, true, true, true, true, true, false, false, false, false, false] _ _
                    refine heldTake (i := 32) (d := some 173) (v := ?v32_94) rfl rfl (by kernel_rfl) (by kernel_rfl) (by kernel_rfl) (fun _ _ _ h => h) (by rfl) ?hy32_94 (by assumption) ?r32_94
                    case hy32_94 => (intro w hSw; (try dsimp only at hSw); go_simp; try with_reducible rfl)
                    try simp only [Act.put, List.setIfInBounds_toArray, List.set_cons_zero, List.set_cons_succ]
                    change wpAnyH _ _ _ _ _ 4 #[true, true, true, true, true, true, true, true, true, true, true, true, true, true, true, true, true, true, true, true, true, true, true, true, true, true, true, true, true, true, true, true, true, false, false, false, false] _ _
                    refine heldTake (i := 33) (d := some 174) (v := ?v33_95) rfl rfl (by kernel_rfl) (by kernel_rfl) (by kernel_rfl) (fun _ _ _ h => h) (by rfl) ?hy33_95 (by assumption) ?r33_95
                    case hy33_95 => (intro w hSw; (try dsimp only at hSw); go_simp; try with_reducible rfl)
                    try simp only [Act.put, List.setIfInBounds_toArray, List.set_cons_zero, List.set_cons_succ]
                    change wpAnyH _ _ _ _ _ 3 #[true, true, true, true, true, true, true, true, true, true, true, true, true, true, true, true, true, true, true, true, true, true, true, true, true, true, true, true, true, true, true, true, true, true, false, false, false] _ _
                    refine wpAnyH_ready (rs := [34]) (by kernel_rfl) (by simp) ?_
                    refine AllReadyH.cons rfl (fun K hK => ?_) AllReadyH.nil
                    go_simp
                    go_at_call 6
                    refine (lives24 _).mono ?_
                    rintro e v34 ⟨rfl, hV34⟩
                    have hS34 : Upd [] wz v34 := hHeld.then hV34
                    go_wp2
                    refine hK.out _ _ hS34 (fun hHeld => ?_)
                    clear hK K
                    try simp only [Act.put, List.setIfInBounds_toArray, List.set_cons_zero, List.set_cons_succ]
                    change wpAnyH _ _ _ _ _ 2 #[true, true, true, true, true, true, true, true, true, true, true, true, true, true, true, true, true, true, true, true, true, true, true, true, true, true, true, true, true, true, true, true, true, true, true, false, false] _ _
                    refine heldTake (i := 35) (d := some 176) (v := ?v35_97) rfl rfl (by kernel_rfl) (by kernel_rfl) (by kernel_rfl) (fun _ _ _ h => h) (by rfl) ?hy35_97 (by assumption) ?r35_97
                    case hy35_97 => (intro w hSw; (try dsimp only at hSw); go_simp; try with_reducible rfl)
                    try simp only [Act.put, List.setIfInBounds_toArray, List.set_cons_zero, List.set_cons_succ]
                    change wpAnyH _ _ _ _ _ 1 #[true, true, true, true, true, true, true, true, true, true, true, true, true, true, true, true, true, true, true, true, true, true, true, true, true, true, true, true, true, true, true, true, true, true, true, true, false] _ _
                    refine heldTake (i := 36) (d := some 4) (v := ?v36_98) rfl rfl (by kernel_rfl) (by kernel_rfl) (by kernel_rfl) (fun _ _ _ h => h) (by rfl) ?hy36_98 (by assumption) ?r36_98
                    case hy36_98 => (intro w hSw; (try dsimp only at hSw); go_simp; try with_reducible rfl)
                    try simp only [Act.put, List.setIfInBounds_toArray, List.set_cons_zero, List.set_cons_succ]
                    change wpAnyH _ _ _ _ _ 0 #[true, true, true, true, true, true, true, true, true, true, true, true, true, true, true, true, true, true, true, true, true, true, true, true, true, true, true, true, true, true, true, true, true, true, true, true, true] _ _
                    refine wpAnyH_done (by kernel_rfl) ?_ 0
                    go_wp2
                    go_ret
                    exact ⟨rfl, hUwz.out.then hS34⟩
          · have hxf : spanOk x = false := by simpa using hx
            rw [show spanOk (x.1, x.2) = false from hxf]
            have HX := Lib.hid hxf
            clear hx hxf
            have hUwt := hUw8
            have hBXt := hBX8
            clear hUw8 hBX8 HN8
            have x0 := hBXt.out.cell 0 rfl
            have x1 := hBXt.out.cell 1 rfl
            go_wp2_with fail
            refine (add_nil x _).mono ?_
            rintro e wu ⟨rfl, hUu⟩
            have hUwu := Lib.hid (hUwt.out.then hUu)
            have hBXu := Lib.hid (hBXt.out.upd hUu (by simp))
            clear hUwt hBXt hUu x0 x1
            have x0 := hBXu.out.cell 0 rfl
            have x1 := hBXu.out.cell 1 rfl
            go_wp2_with fail
            refine (cut_nil x _).mono ?_
            rintro e wz ⟨rfl, hUz⟩
            have hUwz := Lib.hid (hUwu.out.then hUz)
            have hBXz := Lib.hid (hBXu.out.upd hUz (by simp))
            clear hUwu hBXu hUz x0 x1
            go_upto_region 35 with fail
            refine wp_region_held_drew (S := fun w' => Upd [] wz w') (by kernel_rfl) (Upd.refl _ _).drew (fun hHeld => ?_)
            change wpAnyH _ _ _ _ _ 37 #[false, false, false, false, false, false, false, false, false, false, false, false, false, false, false, false, false, false, false, false, false, false, false, false, false, false, false, false, false, false, false, false, false, false, false, false, false] _ _
            refine heldTake (i := 0) (d := some 141) (v := ?v0_99) rfl rfl (by kernel_rfl) (by kernel_rfl) (by kernel_rfl) (fun _ _ _ h => h) (by rfl) ?hy0_99 (by assumption) ?r0_99
            case hy0_99 => (intro w hSw; (try dsimp only at hSw); go_simp; try with_reducible rfl)
            try simp only [Act.put, List.setIfInBounds_toArray, List.set_cons_zero, List.set_cons_succ]
            change wpAnyH _ _ _ _ _ 36 #[true, false, false, false, false, false, false, false, false, false, false, false, false, false, false, false, false, false, false, false, false, false, false, false, false, false, false, false, false, false, false, false, false, false, false, false, false] _ _
            refine wpAnyH_ready (rs := [1]) (by kernel_rfl) (by simp) ?_
            refine AllReadyH.cons rfl (fun K hK => ?_) AllReadyH.nil
            go_simp
            go_at_call 17
            refine (has_any none [] 0 _ (setIn_nil _ _)).mono ?_
            rintro e v1 ⟨rfl, hV1⟩
            rw [show hasP [] 0 = false from rfl]
            have hS1 : Upd [] wz v1 := hHeld.then hV1
            go_wp2
            refine hK.out _ _ hS1 (fun hHeld => ?_)
            clear hK K
            try simp only [Act.put, List.setIfInBounds_toArray, List.set_cons_zero, List.set_cons_succ]
            change wpAnyH _ _ _ _ _ 35 #[true, true, false, false, false, false, false, false, false, false, false, false, false, false, false, false, false, false, false, false, false, false, false, false, false, false, false, false, false, false, false, false, false, false, false, false, false] _ _
            refine heldTake (i := 2) (d := some 143) (v := ?v2_101) rfl rfl (by kernel_rfl) (by kernel_rfl) (by kernel_rfl) (fun _ _ _ h => h) (by rfl) ?hy2_101 (by assumption) ?r2_101
            case hy2_101 => (intro w hSw; (try dsimp only at hSw); go_simp; try with_reducible rfl)
            try simp only [Act.put, List.setIfInBounds_toArray, List.set_cons_zero, List.set_cons_succ]
            change wpAnyH _ _ _ _ _ 34 #[true, true, true, false, false, false, false, false, false, false, false, false, false, false, false, false, false, false, false, false, false, false, false, false, false, false, false, false, false, false, false, false, false, false, false, false, false] _ _
            refine heldTake (i := 3) (d := some 144) (v := ?v3_102) rfl rfl (by kernel_rfl) (by kernel_rfl) (by kernel_rfl) (fun _ _ _ h => h) (by rfl) ?hy3_102 (by assumption) ?r3_102
            case hy3_102 => (intro w hSw; (try dsimp only at hSw); go_simp; try with_reducible rfl)
            try simp only [Act.put, List.setIfInBounds_toArray, List.set_cons_zero, List.set_cons_succ]
            change wpAnyH _ _ _ _ _ 33 #[true, true, true, true, false, false, false, false, false, false, false, false, false, false, false, false, false, false, false, false, false, false, false, false, false, false, false, false, false, false, false, false, false, false, false, false, false] _ _
            refine heldTake (i := 4) (d := some 145) (v := ?v4_103) rfl rfl (by kernel_rfl) (by kernel_rfl) (by kernel_rfl) (fun _ _ _ h => h) (by rfl) ?hy4_103 (by assumption) ?r4_103
            case hy4_103 => (intro w hSw; (try dsimp only at hSw); go_simp; try with_reducible rfl)
            try simp only [Act.put, List.setIfInBounds_toArray, List.set_cons_zero, List.set_cons_succ]
            change wpAnyH _ _ _ _ _ 32 #[true, true, true, true, true, false, false, false, false, false, false, false, false, false, false, false, false, false, false, false, false, false, false, false, false, false, false, false, false, false, false, false, false, false, false, false, false] _ _
            refine heldTake (i := 5) (d := some 146) (v := ?v5_104) rfl rfl (by kernel_rfl) (by kernel_rfl) (by kernel_rfl) (fun _ _ _ h => h) (by rfl) ?hy5_104 (by assumption) ?r5_104
            case hy5_104 => (intro w hSw; have q0 := (hBXz.out.upd hSw (by simp)).cell 0 rfl; have q1 := (hBXz.out.upd hSw (by simp)).cell 1 rfl; go_simp; try with_reducible rfl)
            try simp only [Act.put, List.setIfInBounds_toArray, List.set_cons_zero, List.set_cons_succ]
            change wpAnyH _ _ _ _ _ 31 #[true, true, true, true, true, true, false, false, false, false, false, false, false, false, false, false, false, false, false, false, false, false, false, false, false, false, false, false, false, false, false, false, false, false, false, false, false] _ _
            refine wpAnyH_ready (rs := [6]) (by kernel_rfl) (by simp) ?_
            refine AllReadyH.cons rfl (fun K hK => ?_) AllReadyH.nil
            go_simp
            go_at_call 18
            refine (meets_any none [] x _ (setIn_nil _ _)).mono ?_
            rintro e v6 ⟨rfl, hV6⟩
            rw [show meetsP [] x = false from rfl]
            have hS6 : Upd [] wz v6 := hHeld.then hV6
            go_wp2
            refine hK.out _ _ hS6 (fun hHeld => ?_)
            clear hK K
            try simp only [Act.put, List.setIfInBounds_toArray, List.set_cons_zero, List.set_cons_succ]
            change wpAnyH _ _ _ _ _ 30 #[true, true, true, true, true, true, true, false, false, false, false, false, false, false, false, false, false, false, false, false, false, false, false, false, false, false, false, false, false, false, false, false, false, false, false, false, false] _ _
            refine heldTake (i := 7) (d := some 148) (v := ?v7_106) rfl rfl (by kernel_rfl) (by kernel_rfl) (by kernel_rfl) (fun _ _ _ h => h) (by rfl) ?hy7_106 (by assumption) ?r7_106
            case hy7_106 => (intro w hSw; (try dsimp only at hSw); go_simp; try with_reducible rfl)
            try simp only [Act.put, List.setIfInBounds_toArray, List.set_cons_zero, List.set_cons_succ]
            change wpAnyH _ _ _ _ _ 29 #[true, true, true, true, true, true, true, true, false, false, false, false, false, false, false, false, false, false, false, false, false, false, false, false, false, false, false, false, false, false, false, false, false, false, false, false, false] _ _
            refine heldTake (i := 8) (d := some 149) (v := ?v8_107) rfl rfl (by kernel_rfl) (by kernel_rfl) (by kernel_rfl) (fun _ _ _ h => h) (by rfl) ?hy8_107 (by assumption) ?r8_107
            case hy8_107 => (intro w hSw; (try dsimp only at hSw); go_simp; try with_reducible rfl)
            try simp only [Act.put, List.setIfInBounds_toArray, List.set_cons_zero, List.set_cons_succ]
            change wpAnyH _ _ _ _ _ 28 #[true, true, true, true, true, true, true, true, true, false, false, false, false, false, false, false, false, false, false, false, false, false, false, false, false, false, false, false, false, false, false, false, false, false, false, false, false] _ _
            refine heldTake (i := 9) (d := some 150) (v := ?v9_108) rfl rfl (by kernel_rfl) (by kernel_rfl) (by kernel_rfl) (fun _ _ _ h => h) (by rfl) ?hy9_108 (by assumption) ?r9_108
            case hy9_108 => (intro w hSw; (try dsimp only at hSw); go_simp; try with_reducible rfl)
            try simp only [Act.put, List.setIfInBounds_toArray, List.set_cons_zero, List.set_cons_succ]
            change wpAnyH _ _ _ _ _ 27 #[true, true, true, true, true, true, true, true, true, true, false, false, false, false, false, false, false, false, false, false, false, false, false, false, false, false, false, false, false, false, false, false, false, false, false, false, false] _ _
            refine heldTake (i := 10) (d := some 151) (v := ?v10_109) rfl rfl (by kernel_rfl) (by kernel_rfl) (by kernel_rfl) (fun _ _ _ h => h) (by rfl) ?hy10_109 (by assumption) ?r10_109
            case hy10_109 => (intro w hSw; (try dsimp only at hSw); go_simp; try with_reducible rfl)
            try simp only [Act.put, List.setIfInBounds_toArray, List.set_cons_zero, List.set_cons_succ]
            change wpAnyH _ _ _ _ _ 26 #[true, true, true, true, true, true, true, true, true, true, true, false, false, false, false, false, false, false, false, false, false, false, false, false, false, false, false, false, false, false, false, false, false, false, false, false, false] _ _
            refine wpAnyH_ready (rs := [11]) (by kernel_rfl) (by simp) ?_
            refine AllReadyH.cons rfl (fun K hK => ?_) AllReadyH.nil
            go_simp
            go_at_call 14
            refine (spans_any none [] _ (setIn_nil _ _)).mono ?_
            rintro e v11 ⟨sv11, rfl, hR11, hV11, hg11⟩
            obtain ⟨r11, rc11, rfl⟩ := hR11.form
            simp only [List.length_nil]
            have hS11 : Upd [] wz v11 := hHeld.then hV11
            go_wp2
            refine hK.out _ _ hS11 (fun hHeld => ?_)
            clear hK K
            try simp only [Act.put, List.setIfInBounds_toArray, List.set_cons_zero, List.set_cons_succ]
            change wpAnyH _ _ _ _ _ 25 #[true, true, true, true, true, true, true, true, true, true, true, true, false, false, false, false, false, false, false, false, false, false, false, false, false, false, false, false, false, false, false, false, false, false, false, false, false] _ _
            refine heldTake (i := 12) (d := some 153) (v := ?v12_111) rfl rfl (by kernel_rfl) (by kernel_rfl) (by kernel_rfl) (fun _ _ _ h => h) (by rfl) ?hy12_111 (by assumption) ?r12_111
            case hy12_111 => (intro w hSw; (try dsimp only at hSw); go_simp; try with_reducible rfl)
            try simp only [Act.put, List.setIfInBounds_toArray, List.set_cons_zero, List.set_cons_succ]
            change wpAnyH _ _ _ _ _ 24 #[true, true, true, true, true, true, true, true, true, true, true, true, true, false, false, false, false, false, false, false, false, false, false, false, false, false, false, false, false, false, false, false, false, false, false, false, false] _ _
            refine heldTake (i := 13) (d := some 154) (v := ?v13_112) rfl rfl (by kernel_rfl) (by kernel_rfl) (by kernel_rfl) (fun _ _ _ h => h) (by rfl) ?hy13_112 (by assumption) ?r13_112
            case hy13_112 => (intro w hSw; (try dsimp only at hSw); go_simp; try with_reducible rfl)
            try simp only [Act.put, List.setIfInBounds_toArray, List.set_cons_zero, List.set_cons_succ]
            change wpAnyH _ _ _ _ _ 23 #[true, true, true, true, true, true, true, true, true, true, true, true, true, true, false, false, false, false, false, false, false, false, false, false, false, false, false, false, false, false, false, false, false, false, false, false, false] _ _
            refine heldTake (i := 14) (d := some 155) (v := ?v14_113) rfl rfl (by kernel_rfl) (by kernel_rfl) (by kernel_rfl) (fun _ _ _ h => h) (by rfl) ?hy14_113 (by assumption) ?r14_113
            case hy14_113 => (intro w hSw; (try dsimp only at hSw); go_simp; try with_reducible rfl)
            try simp only [Act.put, List.setIfInBounds_toArray, List.set_cons_zero, List.set_cons_succ]
            change wpAnyH _ _ _ _ _ 22 #[true, true, true, true, true, true, true, true, true, true, true, true, true, true, true, false, false, false, false, false, false, false, false, false, false, false, false, false, false, false, false, false, false, false, false, false, false] _ _
            refine heldTake (i := 15) (d := some 156) (v := ?v15_114) rfl rfl (by kernel_rfl) (by kernel_rfl) (by kernel_rfl) (fun _ _ _ h => h) (by rfl) ?hy15_114 (by assumption) ?r15_114
            case hy15_114 => (intro w hSw; (try dsimp only at hSw); go_simp; try with_reducible rfl)
            try simp only [Act.put, List.setIfInBounds_toArray, List.set_cons_zero, List.set_cons_succ]
            change wpAnyH _ _ _ _ _ 21 #[true, true, true, true, true, true, true, true, true, true, true, true, true, true, true, true, false, false, false, false, false, false, false, false, false, false, false, false, false, false, false, false, false, false, false, false, false] _ _
            refine heldTake (i := 16) (d := some 157) (v := ?v16_115) rfl rfl (by kernel_rfl) (by kernel_rfl) (by kernel_rfl) (fun _ _ _ h => h) (by rfl) ?hy16_115 (by assumption) ?r16_115
            case hy16_115 => (intro w hSw; (try dsimp only at hSw); go_simp; try with_reducible rfl)
            try simp only [Act.put, List.setIfInBounds_toArray, List.set_cons_zero, List.set_cons_succ]
            change wpAnyH _ _ _ _ _ 20 #[true, true, true, true, true, true, true, true, true, true, true, true, true, true, true, true, true, false, false, false, false, false, false, false, false, false, false, false, false, false, false, false, false, false, false, false, false] _ _
            refine wpAnyH_ready (rs := [17]) (by kernel_rfl) (by simp) ?_
            refine AllReadyH.cons rfl (fun K hK => ?_) AllReadyH.nil
            go_simp
            go_at_call 16
            refine (total_any none [] _ (setIn_nil _ _)).mono ?_
            rintro e v17 ⟨rfl, hV17⟩
            rw [show totW [] = 0 from rfl]
            have hS17 : Upd [] wz v17 := hHeld.then hV17
            go_wp2
            refine hK.out _ _ hS17 (fun hHeld => ?_)
            clear hK K
            try simp only [Act.put, List.setIfInBounds_toArray, List.set_cons_zero, List.set_cons_succ]
            change wpAnyH _ _ _ _ _ 19 #[true, true, true, true, true, true, true, true, true, true, true, true, true, true, true, true, true, true, false, false, false, false, false, false, false, false, false, false, false, false, false, false, false, false, false, false, false] _ _
            refine heldTake (i := 18) (d := some 159) (v := ?v18_117) rfl rfl (by kernel_rfl) (by kernel_rfl) (by kernel_rfl) (fun _ _ _ h => h) (by rfl) ?hy18_117 (by assumption) ?r18_117
            case hy18_117 => (intro w hSw; (try dsimp only at hSw); go_simp; try with_reducible rfl)
            try simp only [Act.put, List.setIfInBounds_toArray, List.set_cons_zero, List.set_cons_succ]
            change wpAnyH _ _ _ _ _ 18 #[true, true, true, true, true, true, true, true, true, true, true, true, true, true, true, true, true, true, true, false, false, false, false, false, false, false, false, false, false, false, false, false, false, false, false, false, false] _ _
            refine heldTake (i := 19) (d := some 160) (v := ?v19_118) rfl rfl (by kernel_rfl) (by kernel_rfl) (by kernel_rfl) (fun _ _ _ h => h) (by rfl) ?hy19_118 (by assumption) ?r19_118
            case hy19_118 => (intro w hSw; (try dsimp only at hSw); go_simp; try with_reducible rfl)
            try simp only [Act.put, List.setIfInBounds_toArray, List.set_cons_zero, List.set_cons_succ]
            change wpAnyH _ _ _ _ _ 17 #[true, true, true, true, true, true, true, true, true, true, true, true, true, true, true, true, true, true, true, true, false, false, false, false, false, false, false, false, false, false, false, false, false, false, false, false, false] _ _
            refine heldTake (i := 20) (d := some 161) (v := ?v20_119) rfl rfl (by kernel_rfl) (by kernel_rfl) (by kernel_rfl) (fun _ _ _ h => h) (by rfl) ?hy20_119 (by assumption) ?r20_119
            case hy20_119 => (intro w hSw; (try dsimp only at hSw); go_simp; try with_reducible rfl)
            try simp only [Act.put, List.setIfInBounds_toArray, List.set_cons_zero, List.set_cons_succ]
            change wpAnyH _ _ _ _ _ 16 #[true, true, true, true, true, true, true, true, true, true, true, true, true, true, true, true, true, true, true, true, true, false, false, false, false, false, false, false, false, false, false, false, false, false, false, false, false] _ _
            refine heldTake (i := 21) (d := some 162) (v := ?v21_120) rfl rfl (by kernel_rfl) (by kernel_rfl) (by kernel_rfl) (fun _ _ _ h => h) (by rfl) ?hy21_120 (by assumption) ?r21_120
            case hy21_120 => (intro w hSw; have q0 := (hBXz.out.upd hSw (by simp)).cell 0 rfl; have q1 := (hBXz.out.upd hSw (by simp)).cell 1 rfl; go_simp; try with_reducible rfl)
            try simp only [Act.put, List.setIfInBounds_toArray, List.set_cons_zero, List.set_cons_succ]
            change wpAnyH _ _ _ _ _ 15 #[true, true, true, true, true, true, true, true, true, true, true, true, true, true, true, true, true, true, true, true, true, true, false, false, false, false, false, false, false, false, false, false, false, false, false, false, false] _ _
            refine wpAnyH_ready (rs := [22]) (by kernel_rfl) (by simp) ?_
            refine AllReadyH.cons rfl (fun K hK => ?_) AllReadyH.nil
            go_simp
            go_at_call 20
            refine (rright_any _ _ _).mono ?_
            rintro e v22 ⟨rfl, hV22⟩
            rw [show spanOk (x.1, x.2) = false from HX.out]
            have hS22 : Upd [] wz v22 := hHeld.then hV22
            go_wp2
            refine hK.out _ _ hS22 (fun hHeld => ?_)
            clear hK K
            try simp only [Act.put, List.setIfInBounds_toArray, List.set_cons_zero, List.set_cons_succ]
            change wpAnyH _ _ _ _ _ 14 #[true, true, true, true, true, true, true, true, true, true, true, true, true, true, true, true, true, true, true, true, true, true, true, false, false, false, false, false, false, false, false, false, false, false, false, false, false] _ _
            refine heldTake (i := 23) (d := some 164) (v := ?v23_122) rfl rfl (by kernel_rfl) (by kernel_rfl) (by kernel_rfl) (fun _ _ _ h => h) (by rfl) ?hy23_122 (by assumption) ?r23_122
            case hy23_122 => (intro w hSw; (try dsimp only at hSw); go_simp; try with_reducible rfl)
            try simp only [Act.put, List.setIfInBounds_toArray, List.set_cons_zero, List.set_cons_succ]
            change wpAnyH _ _ _ _ _ 13 #[true, true, true, true, true, true, true, true, true, true, true, true, true, true, true, true, true, true, true, true, true, true, true, true, false, false, false, false, false, false, false, false, false, false, false, false, false] _ _
            refine heldTake (i := 24) (d := some 165) (v := ?v24_123) rfl rfl (by kernel_rfl) (by kernel_rfl) (by kernel_rfl) (fun _ _ _ h => h) (by rfl) ?hy24_123 (by assumption) ?r24_123
            case hy24_123 => (intro w hSw; (try dsimp only at hSw); go_simp; try with_reducible rfl)
            try simp only [Act.put, List.setIfInBounds_toArray, List.set_cons_zero, List.set_cons_succ]
            change wpAnyH _ _ _ _ _ 12 #[true, true, true, true, true, true, true, true, true, true, true, true, true, true, true, true, true, true, true, true, true, true, true, true, true, false, false, false, false, false, false, false, false, false, false, false, false] _ _
            refine heldSkip (i := 25) (d := some 166) rfl rfl (by kernel_rfl) (by kernel_rfl) (by kernel_rfl) (fun _ _ _ h => h) (by rfl) (by assumption) ?r25_124
            try simp only [Act.put, List.setIfInBounds_toArray, List.set_cons_zero, List.set_cons_succ]
            change wpAnyH _ _ _ _ _ 11 #[true, true, true, true, true, true, true, true, true, true, true, true, true, true, true, true, true, true, true, true, true, true, true, true, true, true, false, false, false, false, false, false, false, false, false, false, false] _ _
            refine heldSkip (i := 26) (d := some 167) rfl rfl (by kernel_rfl) (by kernel_rfl) (by kernel_rfl) (fun _ _ _ h => h) (by rfl) (by assumption) ?r26_125
            try simp only [Act.put, List.setIfInBounds_toArray, List.set_cons_zero, List.set_cons_succ]
            change wpAnyH _ _ _ _ _ 10 #[true, true, true, true, true, true, true, true, true, true, true, true, true, true, true, true, true, true, true, true, true, true, true, true, true, true, true, false, false, false, false, false, false, false, false, false, false] _ _
            refine heldSkip (i := 27) (d := some 168) rfl rfl (by kernel_rfl) (by kernel_rfl) (by kernel_rfl) (fun _ _ _ h => h) (by rfl) (by assumption) ?r27_126
            try simp only [Act.put, List.setIfInBounds_toArray, List.set_cons_zero, List.set_cons_succ]
            change wpAnyH _ _ _ _ _ 9 #[true, true, true, true, true, true, true, true, true, true, true, true, true, true, true, true, true, true, true, true, true, true, true, true, true, true, true, true, false, false, false, false, false, false, false, false, false] _ _
            refine heldSkip (i := 28) (d := some 169) rfl rfl (by kernel_rfl) (by kernel_rfl) (by kernel_rfl) (fun _ _ _ h => h) (by rfl) (by assumption) ?r28_127
            try simp only [Act.put, List.setIfInBounds_toArray, List.set_cons_zero, List.set_cons_succ]
            change wpAnyH _ _ _ _ _ 8 #[true, true, true, true, true, true, true, true, true, true, true, true, true, true, true, true, true, true, true, true, true, true, true, true, true, true, true, true, true, false, false, false, false, false, false, false, false] _ _
            refine heldSkip (i := 29) (d := some 170) rfl rfl (by kernel_rfl) (by kernel_rfl) (by kernel_rfl) (fun _ _ _ h => h) (by rfl) (by assumption) ?r29_128
            try simp only [Act.put, List.setIfInBounds_toArray, List.set_cons_zero, List.set_cons_succ]
            change wpAnyH _ _ _ _ _ 7 #[true, true, true, true, true, true, true, true, true, true, true, true, true, true, true, true, true, true, true, true, true, true, true, true, true, true, true, true, true, true, false, false, false, false, false, false, false] _ _
            refine heldSkip (i := 30) (d := some 171) rfl rfl (by kernel_rfl) (by kernel_rfl) (by kernel_rfl) (fun _ _ _ h => h) (by rfl) (by assumption) ?r30_129
            try simp only [Act.put, List.setIfInBounds_toArray, List.set_cons_zero, List.set_cons_succ]
            change wpAnyH _ _ _ _ _ 6 #[true, true, true, true, true, true, true, true, true, true, true, true, true, true, true, true, true, true, true, true, true, true, true, true, true, true, true, true, true, true, true, false, false, false, false, false, false] _ _
            refine heldTake (i := 31) (d := some 172) (v := ?v31_130) rfl rfl (by kernel_rfl) (by kernel_rfl) (by kernel_rfl) (fun _ _ _ h => h) (by rfl) ?hy31_130 (by assumption) ?r31_130
            case hy31_130 => (intro w hSw; (try dsimp only at hSw); go_simp; try with_reducible rfl)
            try simp only [Act.put, List.setIfInBounds_toArray, List.set_cons_zero, List.set_cons_succ]
            change wpAnyH _ _ _ _ _ 5 #[true, true, true, true, true, true, true, true, true, true, true, true, true, true, true, true, true, true, true, true, true, true, true, true, true, true, true, true, true, true, true, true, false, false, false, false, false] _ _
            refine heldTake (i := 32) (d := some 173) (v := ?v32_131) rfl rfl (by kernel_rfl) (by kernel_rfl) (by kernel_rfl) (fun _ _ _ h => h) (by rfl) ?hy32_131 (by assumption) ?r32_131
            case hy32_131 => (intro w hSw; (try dsimp only at hSw); go_simp; try with_reducible rfl)
            try simp only [Act.put, List.setIfInBounds_toArray, List.set_cons_zero, List.set_cons_succ]
            change wpAnyH _ _ _ _ _ 4 #[true, true, true, true, true, true, true, true, true, true, true, true, true, true, true, true, true, true, true, true, true, true, true, true, true, true, true, true, true, true, true, true, true, false, false, false, false] _ _
            refine heldTake (i := 33) (d := some 174) (v := ?v33_132) rfl rfl (by kernel_rfl) (by kernel_rfl) (by kernel_rfl) (fun _ _ _ h => h) (by rfl) ?hy33_132 (by assumption) ?r33_132
            case hy33_132 => (intro w hSw; (try dsimp only at hSw); go_simp; try with_reducible rfl)
            try simp only [Act.put, List.setIfInBounds_toArray, List.set_cons_zero, List.set_cons_succ]
            change wpAnyH _ _ _ _ _ 3 #[true, true, true, true, true, true, true, true, true, true, true, true, true, true, true, true, true, true, true, true, true, true, true, true, true, true, true, true, true, true, true, true, true, true, false, false, false] _ _
            refine wpAnyH_ready (rs := [34]) (by kernel_rfl) (by simp) ?_
            refine AllReadyH.cons rfl (fun K hK => ?_) AllReadyH.nil
            go_simp
            go_at_call 6
            refine (lives24 _).mono ?_
            rintro e v34 ⟨rfl, hV34⟩
            have hS34 : Upd [] wz v34 := hHeld.then hV34
            go_wp2
            refine hK.out _ _ hS34 (fun hHeld => ?_)
            clear hK K
            try simp only [Act.put, List.setIfInBounds_toArray, List.set_cons_zero, List.set_cons_succ]
            change wpAnyH _ _ _ _ _ 2 #[true, true, true, true, true, true, true, true, true, true, true, true, true, true, true, true, true, true, true, true, true, true, true, true, true, true, true, true, true, true, true, true, true, true, true, false, false] _ _
            refine heldTake (i := 35) (d := some 176) (v := ?v35_134) rfl rfl (by kernel_rfl) (by kernel_rfl) (by kernel_rfl) (fun _ _ _ h => h) (by rfl) ?hy35_134 (by assumption) ?r35_134
            case hy35_134 => (intro w hSw; (try dsimp only at hSw); go_simp; try with_reducible rfl)
            try simp only [Act.put, List.setIfInBounds_toArray, List.set_cons_zero, List.set_cons_succ]
            change wpAnyH _ _ _ _ _ 1 #[true, true, true, true, true, true, true, true, true, true, true, true, true, true, true, true, true, true, true, true, true, true, true, true, true, true, true, true, true, true, true, true, true, true, true, true, false] _ _
            refine heldTake (i := 36) (d := some 4) (v := ?v36_135) rfl rfl (by kernel_rfl) (by kernel_rfl) (by kernel_rfl) (fun _ _ _ h => h) (by rfl) ?hy36_135 (by assumption) ?r36_135
            case hy36_135 => (intro w hSw; (try dsimp only at hSw); go_simp; try with_reducible rfl)
            try simp only [Act.put, List.setIfInBounds_toArray, List.set_cons_zero, List.set_cons_succ]
            change wpAnyH _ _ _ _ _ 0 #[true, true, true, true, true, true, true, true, true, true, true, true, true, true, true, true, true, true, true, true, true, true, true, true, true, true, true, true, true, true, true, true, true, true, true, true, true] _ _
            refine wpAnyH_done (by kernel_rfl) ?_ 0
            go_wp2
            go_ret
            exact ⟨rfl, hUwz.out.then hS34⟩
theorem law_extentWide (a : Option Addr) (len cap : Nat) (f : Nat → Int × Int) (x : Int × Int) (w : World) (hcap : cap ≤ 9223372036854775807) (hlc : len ≤ cap) (hin : SpansIn w a len f) :
    Calls Try.prog 4 #[.slice a len cap, .agg #[.int .i64 x.1, .int .i64 x.2]] w fun e w' => e = .returned (.bool true) ∧ Upd [] w w' := by
  by_cases h : len ≤ 20
  · exact wide_few a len cap f x w hcap hlc h hin
  · exact wide_many a len cap x w hcap hlc (by omega)
end Go.Proofs.Ytibmhadnfggmlaa
