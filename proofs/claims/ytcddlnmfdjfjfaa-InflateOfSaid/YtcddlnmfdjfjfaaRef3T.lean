/- The walks of the reference's reader of bits (swingleref03), further: R.Align, R.Text. -/
import Derived.Test.YtcddlnmfdjfjfaaRef3R
namespace Go.Proofs.Ytcddlnmfdjfjfaa
open Go.RowKit
set_option linter.unusedVariables false

set_option maxHeartbeats 1600000 in
theorem ralign_read (b : Nat) (w : World) (s : ByteArray) (a : Nat) (bad : Bool) (hR : RdAt w b 61 s a bad) (hs : s.size ≤ 1099511627776) :
    Calls Try.prog 69 #[.pointer (some ⟨b, 0, none⟩)] w
      (RdPost w b 61 s (.tuple #[]) (alTo a bad) bad) := by
  cases bad with
  | true =>
    have h2 := hR.1.cell 2 rfl
    go_enter Try.func69, Try.ntmps69
    go_wp2
    refine wp_loop_rounds 1 ?_
    rw [rounds_succ]
    go_wp2
    go_returns
    exact ⟨rfl, hR, .refl _ _⟩
  | false =>
    have hal : alTo a false = 8 * ((a + 7) / 8) := rfl
    have hle := hR.2
    rw [hal]
    go_enter Try.func69, Try.ntmps69
    go_wp2
    go_loopg [] (8 * ((a + 7) / 8) - a) (fun g wr => ∃ j, a + j ≤ 8 * ((a + 7) / 8) ∧ g = 8 * ((a + 7) / 8) - a - j ∧ RdRel w b 61 s (a + j) wr)
    case atStart => exact ⟨0, by omega, rfl, hR, .refl _ _⟩
    case round =>
      obtain ⟨j, hj, rfl, hRr, hU⟩ := hrel
      have k1 := hRr.1.cell 1 rfl
      have k2 := hRr.1.cell 2 rfl
      have g1 := hRr.1.frz 1
      obtain ⟨c, hc⟩ : ∃ c, c = a + j := ⟨_, rfl⟩
      rw [← hc] at k1
      have HC := Lib.hid hc
      clear hc
      by_cases hm : (a + j) % 8 = 0
      · have hcz : (c : Int) % 8 = 0 := by have := HC.out; omega
        have hfin : a + j = 8 * ((a + 7) / 8) := by omega
        rw [hfin] at hRr
        have hb2 : c ≤ 8796093022208 := by have := HC.out; omega
        clear hm hfin hj
        go_wp2
        go_returns
        exact ⟨rfl, hRr, hU⟩
      · have hcz : ((c : Int) % 8 == 0) = false := by simp; have := HC.out; omega
        have hcz2 : ((c : Int) % 8 != 0) = true := by simp; have := HC.out; omega
        have hb2 : c ≤ 8796093022208 := by have := HC.out; omega
        go_wp2
        go_roundg (8 * ((a + 7) / 8) - a - (j + 1))
        case measure => omega
        case rel =>
          refine ⟨j + 1, by omega, rfl, ?_, hU.setCell (.inl (by simp)) _⟩
          have e : (c : Int) + 1 = ((a + (j + 1) : Nat) : Int) := by have := HC.out; omega
          rw [e]
          exact ⟨hRr.1.set 1 _, by omega⟩

set_option maxRecDepth 100000 in
set_option maxHeartbeats 3200000 in
theorem rtext_read (b : Nat) (n : Int) (w : World) (s : ByteArray) (a : Nat) (bad : Bool) (hR : RdAt w b 61 s a bad) (hs : s.size ≤ 1099511627776) :
    Calls Try.prog 70 #[.pointer (some ⟨b, 0, none⟩), .int .i64 n] w
      (RdPost w b 61 s (.string (txStr s a bad n)) (txTo s a bad n) (txBad s a bad n)) := by
  have HA := Lib.hid (ralign_read b w s a bad hR hs)
  have hal := alTo_le s a bad hR.2
  cases bad with
  | true =>
    have e1 : txBad s a true n = true := rfl
    have e2 : txStr s a true n = ⟨#[]⟩ := rfl
    have e3 : txTo s a true n = alTo a true := rfl
    rw [e1, e2, e3]
    generalize alTo a true = a1 at *
    go_enter Try.func70, Try.ntmps70
    go_wp2_with fail
    refine HA.out.mono ?_
    rintro e w' ⟨rfl, hR1, hU1⟩
    have k2 := hR1.1.cell 2 rfl
    have f2 := hR1.1.frz 2
    go_wp2
    go_quiet (fail)
    go_wp2
    go_returns
    exact ⟨rfl, ⟨(hR1.1.drewN _).set 2 _, hR1.2⟩, (hU1.drewN _).setCell (.inl (by simp)) _⟩
  | false =>
    have hq : (a + 7) / 8 ≤ s.size := by have := hR.2; omega
    have ha1 : alTo a false = 8 * ((a + 7) / 8) := rfl
    have HBD := Lib.hid (fun (h : txBad s a false n = true) => (show txStr s a false n = ⟨#[]⟩ ∧ txTo s a false n = alTo a false by unfold txStr txTo; rw [if_pos h, if_pos h]; exact ⟨rfl, rfl⟩))
    have HGD := Lib.hid (fun (h : txBad s a false n = false) => (show txStr s a false n = s.extract ((a + 7) / 8) ((a + 7) / 8 + n.toNat) ∧ txTo s a false n = 8 * ((a + 7) / 8) + 8 * n.toNat by unfold txStr txTo; rw [if_neg (by rw [h]; decide), if_neg (by rw [h]; decide)]; exact ⟨rfl, rfl⟩))
    have hTB : txBad s a false n = (decide (n < 0) || decide (((s.size - (a + 7) / 8 : Nat) : Int) < n)) := by simp [txBad]
    generalize (a + 7) / 8 = q at *
    have HQ := Lib.hid ha1
    clear ha1
    generalize alTo a false = a1 at *
    have hdv2 : ((a1 : Nat) : Int) / 8 = (q : Int) := by have := HQ.out; omega
    have ha1b : a1 ≤ 8796093022208 := by omega
    cases hb : txBad s a false n with
    | true =>
      obtain ⟨e1, e2⟩ := HBD.out hb
      rw [e1, e2]
      rw [hTB] at hb
      simp only [Bool.or_eq_true, decide_eq_true_eq] at hb
      clear e1 e2 hTB HBD HGD
      by_cases hn : n < 0
      · have d1 : decide (n < 0) = true := by simpa using hn
        clear hb
        go_enter Try.func70, Try.ntmps70
        go_wp2_with fail
        refine HA.out.mono ?_
        rintro e w' ⟨rfl, hR1, hU1⟩
        have k2 := hR1.1.cell 2 rfl
        have f2 := hR1.1.frz 2
        go_wp2
        go_quiet (fail)
        go_wp2
        go_returns
        exact ⟨rfl, ⟨(hR1.1.drewN _).set 2 _, hR1.2⟩, (hU1.drewN _).setCell (.inl (by simp)) _⟩
      · have d1 : decide (n < 0) = false := by simpa using hn
        have hn2 : (s.size : Int) - (q : Int) < n := by omega
        have d2 : decide ((s.size : Int) - (q : Int) < n) = true := by simpa using hn2
        clear hb
        go_enter Try.func70, Try.ntmps70
        go_wp2_with fail
        refine HA.out.mono ?_
        rintro e w' ⟨rfl, hR1, hU1⟩
        have k0 := hR1.1.cell 0 rfl
        have k1 := hR1.1.cell 1 rfl
        have k2 := hR1.1.cell 2 rfl
        have f2 := hR1.1.frz 2
        go_wp2
        go_quiet (fail)
        go_wp2
        go_returns
        exact ⟨rfl, ⟨(hR1.1.drewN _).set 2 _, hR1.2⟩, (hU1.drewN _).setCell (.inl (by simp)) _⟩
    | false =>
      obtain ⟨e1, e2⟩ := HGD.out hb
      rw [e1, e2]
      rw [hTB] at hb
      simp only [Bool.or_eq_false_iff, decide_eq_false_iff_not] at hb
      obtain ⟨hn0, hn1⟩ := hb
      obtain ⟨N, rfl⟩ : ∃ N : Nat, n = (N : Int) := ⟨n.toNat, by omega⟩
      have hN : q + N ≤ s.size := by omega
      have hNz : (q : Int) + (N : Int) ≤ (s.size : Int) := by omega
      rw [Int.toNat_natCast]
      have d1 : decide ((N : Int) < 0) = false := by simp
      have d2 : decide ((s.size : Int) - (q : Int) < (N : Int)) = false := by simp; omega
      clear e1 e2 hTB HBD HGD hn0 hn1
      go_enter Try.func70, Try.ntmps70
      go_wp2_with fail
      refine HA.out.mono ?_
      rintro e w' ⟨rfl, hR1, hU1⟩
      have k0 := hR1.1.cell 0 rfl
      have k1 := hR1.1.cell 1 rfl
      have k2 := hR1.1.cell 2 rfl
      have f1 := hR1.1.frz 1
      go_wp2
      go_quiet (fail)
      go_wp2
      go_quiet (fail)
      go_wp2
      go_returns
      have e : (a1 : Int) + 8 * (N : Int) = ((8 * q + 8 * N : Nat) : Int) := by have := HQ.out; omega
      rw [e]
      exact ⟨rfl, ⟨(hR1.1.drewN _).set 1 _, by omega⟩, (hU1.drewN _).setCell (.inl (by simp)) _⟩
end Go.Proofs.Ytcddlnmfdjfjfaa
