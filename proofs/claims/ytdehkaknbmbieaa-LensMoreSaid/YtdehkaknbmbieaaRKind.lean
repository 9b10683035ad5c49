/- The walk of swingleref04.Kind. -/
import Derived.Test.YtdehkaknbmbieaaIntB
namespace Go.Proofs.Ytdehkaknbmbieaa
set_option linter.unusedVariables false
set_option linter.unusedSimpArgs false
set_option linter.unusedSectionVars false
open Go.RowKit

theorem kindN_cases (n : List Nat) : (wsum n = 0 ∧ kindN n = 0) ∨ (0 < wsum n ∧ wsum n < 32768 ∧ kindN n = 2) ∨ (wsum n = 32768 ∧ kindN n = 1) ∨ (32768 < wsum n ∧ kindN n = 3) := by
  unfold kindN
  by_cases h1 : wsum n = 0
  · simp [h1]
  · by_cases h2 : wsum n < 32768
    · simp [h1, h2]; omega
    · by_cases h3 : wsum n = 32768
      · simp [h3]
      · simp [h1, h2, h3]; omega

set_option maxRecDepth 100000 in
set_option maxHeartbeats 3200000 in
theorem rkind_any (a : Option Addr) (len cap : Nat) (l : List Int) (w : World) (hlen : len ≤ 9223372036854775807) (hI : IntsIn w a len l) :
    Calls Try.prog 15 #[.slice a len cap] w fun e w' => e = .returned (.int .i64 (kindOf l : Nat)) ∧ w = w' := by
  have hll := hI.len
  have HI := Lib.hid hI
  clear hI
  subst hll
  by_cases hlong : 300 < l.length
  · have hnz : ((l.length : Nat) : Int) > 300 := by omega
    have hk := Lib.hid (show kindOf l = 3 by unfold kindOf; rw [if_neg (by rw [okLens_long hlong]; decide)])
    clear hlong
    go_enter Try.func15, Try.ntmps15
    go_wp2
    go_returns
    exact ⟨by rw [hk.out]; rfl, rfl⟩
  · have hnz : ¬ ((l.length : Nat) : Int) > 300 := by omega
    go_enter Try.func15, Try.ntmps15
    go_wp2
    go_loopg [3, 13] l.length (fun g s3 s13 wr => ∃ i, i ≤ l.length ∧ g = l.length - i ∧ s13 = .int .i64 (i : Nat) ∧ s3 = .int .i64 (wsum (nats (l.take i)) : Nat) ∧ okLens (l.take i) = true ∧ w = wr)
    case atStart => exact ⟨0, by omega, rfl, rfl, rfl, okLens_mk (by simp) (by simp), rfl⟩
    case round =>
      obtain ⟨i, hin, rfl, rfl, rfl, hok, rfl⟩ := hrel
      have hle : wsum (nats (l.take i)) ≤ 300 * 32768 := wsum_le _ (by rw [length_nats, List.length_take]; omega)
      by_cases hc : i < l.length
      · have hcz : (i : Int) < (l.length : Int) := by omega
        obtain ⟨b, off, rfl, c0, r1, r2⟩ := HI.out.cell i hc
        by_cases hb : 0 ≤ l[i] ∧ l[i] ≤ 15
        · obtain ⟨hb0, hb15⟩ := hb
          have hok2 := Lib.hid (okLens_take hc hok (by omega) hb0 hb15)
          obtain ⟨k, hk⟩ : ∃ k : Nat, l[i] = (k : Int) := ⟨l[i].toNat, by omega⟩
          have hn2 := Lib.hid (show wsum (nats (l.take (i + 1))) = wsum (nats (l.take i)) + wt k by rw [take_snoc' l i hc, ← wsum_snoc]; simp [nats, hk])
          rw [hk] at c0 hb0 hb15
          clear hk r1 r2 hok
          generalize wsum (nats (l.take i)) = s at *
          go_wp2
          go_loopg [6, 7] k (fun g s6 s7 wx => ∃ j, j ≤ k ∧ g = k - j ∧ s7 = .int .i64 (j : Nat) ∧ s6 = .int .i64 ((2 ^ (15 - j) : Nat) : Int) ∧ w = wx)
          case atStart => exact ⟨0, by omega, rfl, rfl, rfl, rfl⟩
          case round =>
            obtain ⟨j, hj, rfl, rfl, rfl, rfl⟩ := hrel
            have hp : 2 ^ (15 - j) ≤ 2 ^ 15 := Nat.pow_le_pow_right (by omega) (by omega)
            by_cases hjk : j < k
            · have hjz : (j : Int) < (k : Int) := by omega
              have hpp := Lib.hid (show 2 ^ (15 - j) / 2 = 2 ^ (15 - (j + 1)) by rw [show 15 - j = (15 - (j + 1)) + 1 by omega, Nat.pow_succ, Nat.mul_div_cancel _ (by omega)])
              generalize 2 ^ (15 - j) = p at *
              go_wp2
              go_roundg (k - (j + 1))
              case measure => omega
              case rel => exact ⟨j + 1, by omega, rfl, by go_num, by rw [← hpp.out]; simp, rfl⟩
            · have hjz : ¬ (j : Int) < (k : Int) := by omega
              have hjk' : j = k := by omega
              by_cases hk0 : k = 0
              · have hkz : ¬ (0 : Int) < (k : Int) := by omega
                have hw0 := Lib.hid (show wt k = 0 by unfold wt; rw [if_pos hk0])
                clear hk0 hjk'
                generalize 2 ^ (15 - j) = p at *
                go_wp2
                go_roundg (l.length - (i + 1))
                case measure => omega
                case rel => exact ⟨i + 1, by omega, rfl, by go_num, by rw [hn2.out, hw0.out]; rfl, hok2.out, rfl⟩
              · have hkz : (0 : Int) < (k : Int) := by omega
                have hw0 := Lib.hid (show wt k = 2 ^ (15 - j) by unfold wt; rw [if_neg hk0, hjk'])
                clear hk0 hjk'
                generalize 2 ^ (15 - j) = p at *
                go_wp2
                go_roundg (l.length - (i + 1))
                case measure => omega
                case rel => exact ⟨i + 1, by omega, rfl, by go_num, by rw [hn2.out, hw0.out]; simp, hok2.out, rfl⟩
        · have hk := Lib.hid (show kindOf l = 3 by unfold kindOf; rw [if_neg (by rw [okLens_not hc hb]; decide)])
          generalize wsum (nats (l.take i)) = s at *
          by_cases hb0 : l[i] < 0
          · generalize l[i] = x at *
            clear hb
            go_wp2
            go_returns
            exact ⟨by rw [hk.out]; rfl, rfl⟩
          · have hb15 : 15 < l[i] := by omega
            generalize l[i] = x at *
            clear hb
            go_wp2
            go_returns
            exact ⟨by rw [hk.out]; rfl, rfl⟩
      · have hcz : ¬ (i : Int) < (l.length : Int) := by omega
        have hi : i = l.length := by omega
        rw [hi, List.take_length] at hok hle
        have e : wsum (nats (l.take i)) = wsum (nats l) := by rw [hi, List.take_length]
        rw [e]
        have hkind := Lib.hid (show kindOf l = kindN (nats l) by unfold kindOf; rw [if_pos hok])
        have hkc := kindN_cases (nats l)
        clear hi e hle
        generalize wsum (nats l) = s at *
        rcases hkc with ⟨h0, hkn⟩ | ⟨h0, h1, hkn⟩ | ⟨h0, hkn⟩ | ⟨h0, hkn⟩
        · have HK := Lib.hid hkn
          have hs : (s : Int) = 0 := by omega
          clear hkn
          go_wp2
          go_returns
          exact ⟨by rw [hkind.out, HK.out]; rfl, rfl⟩
        · have HK := Lib.hid hkn
          have hs1 : ((s : Int) == 0) = false := by simp; omega
          have hs3 : ((s : Int) == 32768) = false := by simp; omega
          have hs2 : decide ((s : Int) < 32768) = true := by simp; omega
          clear hkn h0 h1
          go_wp2
          go_returns
          exact ⟨by rw [hkind.out, HK.out]; rfl, rfl⟩
        · have HK := Lib.hid hkn
          have hs : (s : Int) = 32768 := by omega
          clear hkn
          go_wp2
          go_returns
          exact ⟨by rw [hkind.out, HK.out]; rfl, rfl⟩
        · have HK := Lib.hid hkn
          have hs1 : ((s : Int) == 0) = false := by simp; omega
          have hs3 : ((s : Int) == 32768) = false := by simp; omega
          have hs2 : decide ((s : Int) < 32768) = false := by simp; omega
          clear hkn h0
          go_wp2
          go_returns
          exact ⟨by rw [hkind.out, HK.out]; rfl, rfl⟩

end Go.Proofs.Ytdehkaknbmbieaa
