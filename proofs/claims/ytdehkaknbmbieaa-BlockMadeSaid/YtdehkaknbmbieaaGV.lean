/- The walk of swingleref04.Kind. -/
import Derived.Test.YtdehkaknbmbieaaIntB
namespace Go.Proofs.Ytdehkaknbmbieaa
set_option linter.unusedVariables false
set_option linter.unusedSimpArgs false
set_option linter.unusedSectionVars false
open Go.RowKit

theorem kindN_cases (n : List Nat) : (wsum n = 0 ∧ kindN n = 0) ∨ (0 < wsum n ∧ wsum n < 32768 ∧ kindN n = 2) ∨ (wsum n = 32768 ∧ kindN n = 1) ∨ (32768 < wsum n ∧ kindN n = 3) := by
  unfold kindN
  by_cases h1 : wsum n = 0
  · simp [h1]
  · by_cases h2 : wsum n < 32768
    · simp [h1, h2]; omega
    · by_cases h3 : wsum n = 32768
      · simp [h3]
      · simp [h1, h2, h3]; omega

set_option maxRecDepth 100000 in
set_option maxHeartbeats 3200000 in
theorem rkind_any (a : Option Addr) (len cap : Nat) (l : List Int) (w : World) (hlen : len ≤ 9223372036854775807) (hI : IntsIn w a len l) :
    Calls Try.prog 15 #[.slice a len cap] w fun e w' => e = .returned (.int .i64 (kindOf l : Nat)) ∧ w = w' := by
  have hll := hI.len
  have HI := Lib.hid hI
  clear hI
  subst hll
  by_cases hlong : 300 < l.length
  · have hnz : ((l.length : Nat) : Int) > 300 := by omega
    have hk := Lib.hid (show kindOf l = 3 by unfold kindOf; rw [if_neg (by rw [okLens_long hlong]; decide)])
    clear hlong
    go_enter Try.func15, Try.ntmps15
    go_wp2
    go_returns
    exact ⟨by rw [hk.out]; rfl, rfl⟩
  · have hnz : ¬ ((l.length : Nat) : Int) > 300 := by omega
    go_enter Try.func15, Try.ntmps15
    go_wp2
    go_loopg [3, 13] l.length (fun g s3 s13 wr => ∃ i, i ≤ l.length ∧ g = l.length - i ∧ s13 = .int .i64 (i : Nat) ∧ s3 = .int .i64 (wsum (nats (l.take i)) : Nat) ∧ okLens (l.take i) = true ∧ w = wr)
    case atStart => exact ⟨0, by omega, rfl, rfl, rfl, okLens_mk (by simp) (by simp), rfl⟩
    case round =>
      obtain ⟨i, hin, rfl, rfl, rfl, hok, rfl⟩ := hrel
      have hle : wsum (nats (l.take i)) ≤ 300 * 32768 := wsum_le _ (by rw [length_nats, List.length_take]; omega)
      by_cases hc : i < l.length
      · have hcz : (i : Int) < (l.length : Int) := by omega
        obtain ⟨b, off, rfl, c0, r1, r2⟩ := HI.out.cell i hc
        by_cases hb : 0 ≤ l[i] ∧ l[i] ≤ 15
        · obtain ⟨hb0, hb15⟩ := hb
          have hok2 := Lib.hid (okLens_take hc hok (by omega) hb0 hb15)
          obtain ⟨k, hk⟩ : ∃ k : Nat, l[i] = (k : Int) := ⟨l[i].toNat, by omega⟩
          have hn2 := Lib.hid (show wsum (nats (l.take (i + 1))) = wsum (nats (l.take i)) + wt k by rw [take_snoc' l i hc, ← wsum_snoc]; simp [nats, hk])
          rw [hk] at c0 hb0 hb15
          clear hk r1 r2 hok
          generalize wsum (nats (l.take i)) = s at *
          go_wp2
          go_loopg [6, 7] k (fun g s6 s7 wx => ∃ j, j ≤ k ∧ g = k - j ∧ s7 = .int .i64 (j : Nat) ∧ s6 = .int .i64 ((2 ^ (15 - j) : Nat) : Int) ∧ w = wx)
          case atStart => exact ⟨0, by omega, rfl, rfl, rfl, rfl⟩
          case round =>
            obtain ⟨j, hj, rfl, rfl, rfl, rfl⟩ := hrel
            have hp : 2 ^ (15 - j) ≤ 2 ^ 15 := Nat.pow_le_pow_right (by omega) (by omega)
            by_cases hjk : j < k
            · have hjz : (j : Int) < (k : Int) := by omega
              have hpp := Lib.hid (show 2 ^ (15 - j) / 2 = 2 ^ (15 - (j + 1)) by rw [show 15 - j = (15 - (j + 1)) + 1 by omega, Nat.pow_succ, Nat.mul_div_cancel _ (by omega)])
              generalize 2 ^ (15 - j) = p at *
              go_wp2
              go_roundg (k - (j + 1))
              case measure => omega
              case rel => exact ⟨j + 1, by omega, rfl, by go_num, by rw [← hpp.out]; simp, rfl⟩
            · have hjz : ¬ (j : Int) < (k : Int) := by omega
              have hjk' : j = k := by omega
              by_cases hk0 : k = 0
              · have hkz : ¬ (0 : Int) < (k : Int) := by omega
                have hw0 := Lib.hid (show wt k = 0 by unfold wt; rw [if_pos hk0])
                clear hk0 hjk'
                generalize 2 ^ (15 - j) = p at *
                go_wp2
                go_roundg (l.length - (i + 1))
                case measure => omega
                case rel => exact ⟨i + 1, by omega, rfl, by go_num, by rw [hn2.out, hw0.out]; rfl, hok2.out, rfl⟩
              · have hkz : (0 : Int) < (k : Int) := by omega
                have hw0 := Lib.hid (show wt k = 2 ^ (15 - j) by unfold wt; rw [if_neg hk0, hjk'])
                clear hk0 hjk'
                generalize 2 ^ (15 - j) = p at *
                go_wp2
                go_roundg (l.length - (i + 1))
                case measure => omega
                case rel => exact ⟨i + 1, by omega, rfl, by go_num, by rw [hn2.out, hw0.out]; simp, hok2.out, rfl⟩
        · have hk := Lib.hid (show kindOf l = 3 by unfold kindOf; rw [if_neg (by rw [okLens_not hc hb]; decide)])
          generalize wsum (nats (l.take i)) = s at *
          by_cases hb0 : l[i] < 0
          · generalize l[i] = x at *
            clear hb
            go_wp2
            go_returns
            exact ⟨by rw [hk.out]; rfl, rfl⟩
          · have hb15 : 15 < l[i] := by omega
            generalize l[i] = x at *
            clear hb
            go_wp2
            go_returns
            exact ⟨by rw [hk.out]; rfl, rfl⟩
      · have hcz : ¬ (i : Int) < (l.length : Int) := by omega
        have hi : i = l.length := by omega
        rw [hi, List.take_length] at hok hle
        have e : wsum (nats (l.take i)) = wsum (nats l) := by rw [hi, List.take_length]
        rw [e]
        have hkind := Lib.hid (show kindOf l = kindN (nats l) by unfold kindOf; rw [if_pos hok])
        have hkc := kindN_cases (nats l)
        clear hi e hle
        generalize wsum (nats l) = s at *
        rcases hkc with ⟨h0, hkn⟩ | ⟨h0, h1, hkn⟩ | ⟨h0, hkn⟩ | ⟨h0, hkn⟩
        · have HK := Lib.hid hkn
          have hs : (s : Int) = 0 := by omega
          clear hkn
          go_wp2
          go_returns
          exact ⟨by rw [hkind.out, HK.out]; rfl, rfl⟩
        · have HK := Lib.hid hkn
          have hs1 : ((s : Int) == 0) = false := by simp; omega
          have hs3 : ((s : Int) == 32768) = false := by simp; omega
          have hs2 : decide ((s : Int) < 32768) = true := by simp; omega
          clear hkn h0 h1
          go_wp2
          go_returns
          exact ⟨by rw [hkind.out, HK.out]; rfl, rfl⟩
        · have HK := Lib.hid hkn
          have hs : (s : Int) = 32768 := by omega
          clear hkn
          go_wp2
          go_returns
          exact ⟨by rw [hkind.out, HK.out]; rfl, rfl⟩
        · have HK := Lib.hid hkn
          have hs1 : ((s : Int) == 0) = false := by simp; omega
          have hs3 : ((s : Int) == 32768) = false := by simp; omega
          have hs2 : decide ((s : Int) < 32768) = false := by simp; omega
          clear hkn h0
          go_wp2
          go_returns
          exact ⟨by rw [hkind.out, HK.out]; rfl, rfl⟩

end Go.Proofs.Ytdehkaknbmbieaa
namespace Go.Proofs.Ytdehkaknbmbieaa
set_option linter.unusedVariables false
set_option linter.unusedSimpArgs false
set_option linter.unusedSectionVars false
open Go.RowKit
set_option linter.unusedVariables false

def usedI (l : List Int) : Nat := l.countP fun k => decide (0 < k)
def oneI (l : List Int) : Nat := l.countP fun k => decide (k = 1)
def lensOk (l : List Int) : Bool := decide (kindOf l = 1) || (decide (usedI l = 1) && decide (oneI l = 1))
theorem usedI_take {l : List Int} {i : Nat} (h : i < l.length) : usedI (l.take (i + 1)) = usedI (l.take i) + if 0 < l[i] then 1 else 0 := by
  unfold usedI; rw [take_snoc' l i h, List.countP_append]; simp [List.countP_cons]
theorem oneI_take {l : List Int} {i : Nat} (h : i < l.length) : oneI (l.take (i + 1)) = oneI (l.take i) + if l[i] = 1 then 1 else 0 := by
  unfold oneI; rw [take_snoc' l i h, List.countP_append]; simp [List.countP_cons]
theorem usedI_le (l : List Int) : usedI l ≤ l.length := List.countP_le_length
theorem oneI_le (l : List Int) : oneI l ≤ l.length := List.countP_le_length

def lastPos (l : List Int) : Int := (l.filter fun k => decide (0 < k)).getLastD 0
theorem lastPos_take {l : List Int} {i : Nat} (h : i < l.length) : lastPos (l.take (i + 1)) = if 0 < l[i] then l[i] else lastPos (l.take i) := by
  unfold lastPos
  rw [take_snoc' l i h, List.filter_append]
  by_cases hp : 0 < l[i]
  · rw [if_pos hp, List.filter_cons_of_pos (by simpa using hp), List.filter_nil, List.getLastD_eq_getLast?]
    simp
  · rw [if_neg hp, List.filter_cons_of_neg (by simpa using hp), List.filter_nil, List.append_nil]
theorem lensOk_ref (l : List Int) : lensOk l = (decide (kindOf l = 1) || (decide (usedI l = 1) && decide (lastPos l = 1))) := by
  unfold lensOk
  by_cases hu : usedI l = 1
  · have hf : (l.filter fun k => decide (0 < k)).length = 1 := by rw [← List.countP_eq_length_filter]; exact hu
    obtain ⟨x, hx⟩ := List.length_eq_one_iff.1 hf
    have hone : oneI l = if x = 1 then 1 else 0 := by
      have e : oneI l = (l.filter fun k => decide (0 < k)).countP fun k => decide (k = 1) := by
        unfold oneI
        rw [List.countP_filter]
        congr 1
        funext k
        by_cases h : k = 1
        · simp [h]
        · simp [h]
      rw [e, hx]
      by_cases h : x = 1 <;> simp [h]
    have hl : lastPos l = x := by unfold lastPos; rw [hx]; rfl
    rw [hl, hone]
    by_cases h : x = 1 <;> simp [h]
  · simp [hu]
theorem lastPos_bound {l : List Int} (h : ∀ x ∈ l, x ≤ 9223372036854775807) : 0 ≤ lastPos l ∧ lastPos l ≤ 9223372036854775807 := by
  unfold lastPos
  cases hf : (l.filter fun k => decide (0 < k)).getLast? with
  | none => rw [List.getLastD_eq_getLast?, hf]; simp
  | some x =>
    rw [List.getLastD_eq_getLast?, hf]
    have := List.mem_of_getLast? hf
    rw [List.mem_filter] at this
    have h1 := h x this.1
    have h2 : 0 < x := by simpa using this.2
    simp only [Option.getD_some]
    omega

set_option maxRecDepth 100000 in
set_option maxHeartbeats 1600000 in
theorem rlengths_any (x : Option Addr) (cap : Nat) (l : List Int) (w : World) (hlen : l.length ≤ 100000) (hI : IntsIn w x l.length l) :
    Calls Try.prog 27 #[.slice x l.length cap] w fun e w' => e = .returned (.bool (lensOk l)) ∧ w = w' := by
  have HK := Lib.hid (rkind_any x l.length cap l w (by omega) hI)
  have HI := Lib.hid hI
  clear hI
  go_enter Try.func27, Try.ntmps27
  go_wp2
  go_loopg [3, 4, 9] l.length (fun g s3 s4 s9 wr => ∃ i, i ≤ l.length ∧ g = l.length - i ∧ s9 = .int .i64 (i : Nat) ∧ s3 = .int .i64 (usedI (l.take i) : Nat) ∧ s4 = .int .i64 (lastPos (l.take i)) ∧ w = wr)
  case atStart => exact ⟨0, by omega, rfl, rfl, rfl, rfl, rfl⟩
  case round =>
    obtain ⟨i, hi, rfl, rfl, rfl, rfl, rfl⟩ := hrel
    by_cases hc : i < l.length
    · have hcz : (i : Int) < (l.length : Int) := by omega
      obtain ⟨b, off, rfl, c, hb1, hb2⟩ := HI.out.cell i hc
      have hu := usedI_take hc
      have hl := lastPos_take hc
      have hul := usedI_le (l.take i)
      rw [List.length_take] at hul
      have HU := Lib.hid hu
      have HL := Lib.hid hl
      clear hu hl
      generalize l[i] = y at *
      by_cases hy : 0 < y
      · have t1 : decide (0 < y) = true := decide_eq_true hy
        go_wp2
        go_roundg (l.length - (i + 1))
        case measure => omega
        case rel =>
          refine ⟨i + 1, by omega, rfl, by first | rfl | go_num, ?_, ?_, rfl⟩
          · rw [HU.out, if_pos hy]; first | rfl | go_num
          · rw [HL.out, if_pos hy]
      · have t1 : decide (0 < y) = false := decide_eq_false hy
        go_wp2
        go_roundg (l.length - (i + 1))
        case measure => omega
        case rel =>
          refine ⟨i + 1, by omega, rfl, by first | rfl | go_num, ?_, ?_, rfl⟩
          · rw [HU.out, if_neg (by omega)]; first | rfl | go_num
          · rw [HL.out, if_neg (by omega)]
    · have hcz : ¬ (i : Int) < (l.length : Int) := by omega
      have hil : i = l.length := by omega
      subst hil
      rw [List.take_length]
      have hok := Lib.hid (lensOk_ref l)
      have hul := usedI_le l
      generalize usedI l = u at *
      generalize lastPos l = y at *
      generalize kindOf l = kk at *
      by_cases h1 : kk = 1
      · have t1 : ((kk : Int) == 1) = true := by rw [h1]; rfl
        go_wp2_with fail
        refine HK.out.mono ?_
        rintro e w2 ⟨rfl, rfl⟩
        go_wp2
        go_returns
        exact ⟨by rw [hok.out]; simp [h1], rfl⟩
      · have t1 : ((kk : Int) == 1) = false := by simp; omega
        by_cases h2 : u = 1
        · have t2 : ((u : Int) == 1) = true := by rw [h2]; rfl
          by_cases h3 : y = 1
          · have t3 : (y == 1) = true := by rw [h3]; rfl
            go_wp2_with fail
            refine HK.out.mono ?_
            rintro e w2 ⟨rfl, rfl⟩
            go_wp2
            go_returns
            exact ⟨by rw [hok.out]; simp [h2, h3], rfl⟩
          · have t3 : (y == 1) = false := by simp [h3]
            go_wp2_with fail
            refine HK.out.mono ?_
            rintro e w2 ⟨rfl, rfl⟩
            go_wp2
            go_returns
            exact ⟨by rw [hok.out]; simp [h1, h3], rfl⟩
        · have t2 : ((u : Int) == 1) = false := by simp; omega
          go_wp2_with fail
          refine HK.out.mono ?_
          rintro e w2 ⟨rfl, rfl⟩
          go_wp2
          go_returns
          exact ⟨by rw [hok.out]; simp [h1, h2], rfl⟩
end Go.Proofs.Ytdehkaknbmbieaa
