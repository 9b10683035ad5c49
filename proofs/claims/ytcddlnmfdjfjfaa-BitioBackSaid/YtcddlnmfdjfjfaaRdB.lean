/- The walks of bitio's Reader, further: Align, Text. -/
import Derived.Test.YtcddlnmfdjfjfaaRd
namespace Go.Proofs.Ytcddlnmfdjfjfaa
open Go.RowKit
set_option linter.unusedVariables false

set_option maxHeartbeats 1600000 in
theorem align_read (b : Nat) (w : World) (s : ByteArray) (a : Nat) (bad : Bool) (hR : RdAt w b 89 s a bad) (hs : s.size ≤ 1099511627776) :
    Calls Try.prog 48 #[.pointer (some ⟨b, 0, none⟩)] w
      (RdPost w b 89 s (.tuple #[]) (alTo a bad) bad) := by
  have HF := Lib.hid (fine_any b w _ s a bad hR)
  have HU := Lib.hid (used_any b w _ s a bad hR hs)
  cases bad with
  | true =>
    go_enter Try.func48, Try.ntmps48
    go_wp2_with fail
    refine HF.out.mono ?_
    rintro e w' ⟨rfl, rfl⟩
    go_wp2
    go_returns
    exact ⟨rfl, hR, .refl _ _⟩
  | false =>
    have k1 := hR.1.cell 1 rfl
    have f1 := hR.1.frz 1
    have hle := hR.2
    have hq : ((a + 7) / 8 : Nat) ≤ 1099511627776 := by omega
    have hal := Lib.hid (show alTo a false = 8 * ((a + 7) / 8) by rfl)
    have hal2 := alTo_le s a false hle
    clear hle
    generalize (a + 7) / 8 = q at *
    go_enter Try.func48, Try.ntmps48
    go_wp2_with fail
    refine HF.out.mono ?_
    rintro e w' ⟨rfl, rfl⟩
    go_wp2_with fail
    refine HU.out.mono ?_
    rintro e w' ⟨rfl, rfl⟩
    go_wp2
    go_returns
    have e : (8 * (q : Int)) = ((alTo a false : Nat) : Int) := by have := hal.out; omega
    rw [e]
    exact ⟨rfl, ⟨hR.1.set 1 _, hal2⟩, (Upd.refl _ _).setCell (.inl (by simp)) _⟩

set_option maxRecDepth 100000 in
set_option maxHeartbeats 1600000 in
theorem text_read (b : Nat) (n : Int) (w : World) (s : ByteArray) (a : Nat) (bad : Bool) (hR : RdAt w b 89 s a bad) (hs : s.size ≤ 1099511627776) :
    Calls Try.prog 28 #[.pointer (some ⟨b, 0, none⟩), .int .i64 n] w
      (RdPost w b 89 s (.string (txStr s a bad n)) (txTo s a bad n) (txBad s a bad n)) := by
  have HA := Lib.hid (align_read b w s a bad hR hs)
  have hal := alTo_le s a bad hR.2
  cases bad with
  | true =>
    have e1 : txBad s a true n = true := rfl
    have e2 : txStr s a true n = ⟨#[]⟩ := rfl
    have e3 : txTo s a true n = alTo a true := rfl
    rw [e1, e2, e3]
    generalize alTo a true = a1 at *
    go_enter Try.func28, Try.ntmps28
    go_wp2_with fail
    refine HA.out.mono ?_
    rintro e w' ⟨rfl, hR1, hU1⟩
    go_wp2_with fail
    refine (fine_any b w' _ s _ true hR1).mono ?_
    rintro e w2 ⟨rfl, rfl⟩
    go_wp2
    go_returns
    exact ⟨rfl, hR1, hU1⟩
  | false =>
    have hq : (a + 7) / 8 ≤ s.size := by have := hR.2; omega
    have ha1 : alTo a false = 8 * ((a + 7) / 8) := rfl
    have HBD := Lib.hid (fun (h : txBad s a false n = true) => (show txStr s a false n = ⟨#[]⟩ ∧ txTo s a false n = alTo a false by unfold txStr txTo; rw [if_pos h, if_pos h]; exact ⟨rfl, rfl⟩))
    have HGD := Lib.hid (fun (h : txBad s a false n = false) => (show txStr s a false n = s.extract ((a + 7) / 8) ((a + 7) / 8 + n.toNat) ∧ txTo s a false n = 8 * ((a + 7) / 8) + 8 * n.toNat by unfold txStr txTo; rw [if_neg (by rw [h]; decide), if_neg (by rw [h]; decide)]; exact ⟨rfl, rfl⟩))
    have hTB : txBad s a false n = (decide (n < 0) || decide (((s.size - (a + 7) / 8 : Nat) : Int) < n)) := by simp [txBad]
    generalize (a + 7) / 8 = q at *
    have H8 : Hid (8 * s.size - alTo a false = 8 * (s.size - q)) := Lib.hid (by omega)
    have HQ := Lib.hid ha1
    clear ha1
    generalize alTo a false = a1 at *
    cases hb : txBad s a false n with
    | true =>
      obtain ⟨e1, e2⟩ := HBD.out hb
      rw [e1, e2]
      rw [hTB] at hb
      simp only [Bool.or_eq_true, decide_eq_true_eq] at hb
      clear e1 e2 hTB HBD HGD
      by_cases hn : n < 0
      · clear hb
        go_enter Try.func28, Try.ntmps28
        go_wp2_with fail
        refine HA.out.mono ?_
        rintro e w' ⟨rfl, hR1, hU1⟩
        have k2 := hR1.1.cell 2 rfl
        have f2 := hR1.1.frz 2
        go_wp2_with fail
        refine (fine_any b w' _ s _ false hR1).mono ?_
        rintro e w2 ⟨rfl, rfl⟩
        go_wp2
        go_returns
        exact ⟨rfl, ⟨hR1.1.set 2 _, hR1.2⟩, hU1.setCell (.inl (by simp)) _⟩
      · have hn2 : ((s.size - q : Nat) : Int) < n := by omega
        have hsq : s.size - q ≤ 1099511627776 := by omega
        clear hb
        go_enter Try.func28, Try.ntmps28
        go_wp2_with fail
        refine HA.out.mono ?_
        rintro e w' ⟨rfl, hR1, hU1⟩
        have k2 := hR1.1.cell 2 rfl
        have f2 := hR1.1.frz 2
        go_wp2_with fail
        refine (fine_any b w' _ s _ false hR1).mono ?_
        rintro e w2 ⟨rfl, rfl⟩
        have HL := left_any b w' _ s a1 false hR1 hs
        rw [H8.out] at HL
        have hdv : ((8 * (s.size - q) : Nat) : Int) / 8 = ((s.size - q : Nat) : Int) := by omega
        generalize s.size - q = r at *
        go_wp2_with fail
        refine HL.mono ?_
        rintro e w2 ⟨rfl, k, rfl⟩
        generalize 8 * r = r8 at *
        go_wp2
        go_returns
        exact ⟨rfl, ⟨(hR1.1.drewN k).set 2 _, hR1.2⟩, (hU1.drewN k).setCell (.inl (by simp)) _⟩
    | false =>
      obtain ⟨e1, e2⟩ := HGD.out hb
      rw [e1, e2]
      rw [hTB] at hb
      simp only [Bool.or_eq_false_iff, decide_eq_false_iff_not] at hb
      obtain ⟨hn0, hn1⟩ := hb
      obtain ⟨N, rfl⟩ : ∃ N : Nat, n = (N : Int) := ⟨n.toNat, by omega⟩
      have hN : q + N ≤ s.size := by omega
      rw [Int.toNat_natCast]
      have d1 : decide ((N : Int) < 0) = false := by simp
      have hsq : s.size - q ≤ 1099511627776 := by omega
      have hnr : N ≤ s.size - q := by omega
      clear e1 e2 hTB HBD HGD hn0 hn1
      go_enter Try.func28, Try.ntmps28
      go_wp2_with fail
      refine HA.out.mono ?_
      rintro e w' ⟨rfl, hR1, hU1⟩
      go_wp2_with fail
      refine (fine_any b w' _ s _ false hR1).mono ?_
      rintro e w2 ⟨rfl, rfl⟩
      have HL := left_any b w' _ s a1 false hR1 hs
      rw [H8.out] at HL
      have hdv : ((8 * (s.size - q) : Nat) : Int) / 8 = ((s.size - q : Nat) : Int) := by omega
      have hdv2 : ((a1 : Nat) : Int) / 8 = (q : Int) := by have := HQ.out; omega
      generalize s.size - q = r at *
      have d3 : decide (r < N) = false := by simp; omega
      go_wp2_with fail
      refine HL.mono ?_
      rintro e w2 ⟨rfl, k, rfl⟩
      have k0 := hR1.1.cell 0 rfl
      have k1 := hR1.1.cell 1 rfl
      have f1 := hR1.1.frz 1
      generalize 8 * r = r8 at *
      have ha1b : a1 ≤ 8796093022208 := by omega
      go_wp2
      go_returns
      have e : (a1 : Int) + 8 * (N : Int) = ((8 * q + 8 * N : Nat) : Int) := by have := HQ.out; omega
      rw [e]
      exact ⟨rfl, ⟨(hR1.1.drewN k).set 1 _, by omega⟩, (hU1.drewN k).setCell (.inl (by simp)) _⟩
end Go.Proofs.Ytcddlnmfdjfjfaa
