/- Package swingleref08: Lengths: its walk. -/
import Derived.Test.YtcddlnmfdjfjfaaRef8
namespace Go.Proofs.Ytcddlnmfdjfjfaa
open Go.RowKit
set_option linter.unusedVariables false

def lastPos (l : List Int) : Int := (l.filter fun k => decide (0 < k)).getLastD 0
theorem lastPos_take {l : List Int} {i : Nat} (h : i < l.length) : lastPos (l.take (i + 1)) = if 0 < l[i] then l[i] else lastPos (l.take i) := by
  unfold lastPos
  rw [take_snoc' l i h, List.filter_append]
  by_cases hp : 0 < l[i]
  · rw [if_pos hp, List.filter_cons_of_pos (by simpa using hp), List.filter_nil, List.getLastD_eq_getLast?]
    simp
  · rw [if_neg hp, List.filter_cons_of_neg (by simpa using hp), List.filter_nil, List.append_nil]
theorem lensOk_ref (l : List Int) : lensOk l = (decide (kindOf l = 1) || (decide (usedI l = 1) && decide (lastPos l = 1))) := by
  unfold lensOk
  by_cases hu : usedI l = 1
  · have hf : (l.filter fun k => decide (0 < k)).length = 1 := by rw [← List.countP_eq_length_filter]; exact hu
    obtain ⟨x, hx⟩ := List.length_eq_one_iff.1 hf
    have hone : oneI l = if x = 1 then 1 else 0 := by
      have e : oneI l = (l.filter fun k => decide (0 < k)).countP fun k => decide (k = 1) := by
        unfold oneI
        rw [List.countP_filter]
        congr 1
        funext k
        by_cases h : k = 1
        · simp [h]
        · simp [h]
      rw [e, hx]
      by_cases h : x = 1 <;> simp [h]
    have hl : lastPos l = x := by unfold lastPos; rw [hx]; rfl
    rw [hl, hone]
    by_cases h : x = 1 <;> simp [h]
  · simp [hu]
theorem lastPos_bound {l : List Int} (h : ∀ x ∈ l, x ≤ 9223372036854775807) : 0 ≤ lastPos l ∧ lastPos l ≤ 9223372036854775807 := by
  unfold lastPos
  cases hf : (l.filter fun k => decide (0 < k)).getLast? with
  | none => rw [List.getLastD_eq_getLast?, hf]; simp
  | some x =>
    rw [List.getLastD_eq_getLast?, hf]
    have := List.mem_of_getLast? hf
    rw [List.mem_filter] at this
    have h1 := h x this.1
    have h2 : 0 < x := by simpa using this.2
    simp only [Option.getD_some]
    omega

set_option maxRecDepth 100000 in
set_option maxHeartbeats 1600000 in
theorem rlengths_any (x : Option Addr) (cap : Nat) (l : List Int) (w : World) (hlen : l.length ≤ 100000) (hI : IntsIn w x l.length l) :
    Calls Try.prog 45 #[.slice x l.length cap] w fun e w' => e = .returned (.bool (lensOk l)) ∧ w = w' := by
  have HK := Lib.hid (rkind_any x l.length cap l w (by omega) hI)
  have HI := Lib.hid hI
  clear hI
  go_enter Try.func45, Try.ntmps45
  go_wp2
  go_loopg [3, 4, 9] l.length (fun g s3 s4 s9 wr => ∃ i, i ≤ l.length ∧ g = l.length - i ∧ s9 = .int .i64 (i : Nat) ∧ s3 = .int .i64 (usedI (l.take i) : Nat) ∧ s4 = .int .i64 (lastPos (l.take i)) ∧ w = wr)
  case atStart => exact ⟨0, by omega, rfl, rfl, rfl, rfl, rfl⟩
  case round =>
    obtain ⟨i, hi, rfl, rfl, rfl, rfl, rfl⟩ := hrel
    by_cases hc : i < l.length
    · have hcz : (i : Int) < (l.length : Int) := by omega
      obtain ⟨b, off, rfl, c, hb1, hb2⟩ := HI.out.cell i hc
      have hu := usedI_take hc
      have hl := lastPos_take hc
      have hul := usedI_le (l.take i)
      rw [List.length_take] at hul
      have HU := Lib.hid hu
      have HL := Lib.hid hl
      clear hu hl
      generalize l[i] = y at *
      by_cases hy : 0 < y
      · have t1 : decide (0 < y) = true := decide_eq_true hy
        go_wp2
        go_roundg (l.length - (i + 1))
        case measure => omega
        case rel =>
          refine ⟨i + 1, by omega, rfl, by first | rfl | go_num, ?_, ?_, rfl⟩
          · rw [HU.out, if_pos hy]; first | rfl | go_num
          · rw [HL.out, if_pos hy]
      · have t1 : decide (0 < y) = false := decide_eq_false hy
        go_wp2
        go_roundg (l.length - (i + 1))
        case measure => omega
        case rel =>
          refine ⟨i + 1, by omega, rfl, by first | rfl | go_num, ?_, ?_, rfl⟩
          · rw [HU.out, if_neg (by omega)]; first | rfl | go_num
          · rw [HL.out, if_neg (by omega)]
    · have hcz : ¬ (i : Int) < (l.length : Int) := by omega
      have hil : i = l.length := by omega
      subst hil
      rw [List.take_length]
      have hok := Lib.hid (lensOk_ref l)
      have hul := usedI_le l
      generalize usedI l = u at *
      generalize lastPos l = y at *
      generalize kindOf l = kk at *
      by_cases h1 : kk = 1
      · have t1 : ((kk : Int) == 1) = true := by rw [h1]; rfl
        go_wp2_with fail
        refine HK.out.mono ?_
        rintro e w2 ⟨rfl, rfl⟩
        go_wp2
        go_returns
        exact ⟨by rw [hok.out]; simp [h1], rfl⟩
      · have t1 : ((kk : Int) == 1) = false := by simp; omega
        by_cases h2 : u = 1
        · have t2 : ((u : Int) == 1) = true := by rw [h2]; rfl
          by_cases h3 : y = 1
          · have t3 : (y == 1) = true := by rw [h3]; rfl
            go_wp2_with fail
            refine HK.out.mono ?_
            rintro e w2 ⟨rfl, rfl⟩
            go_wp2
            go_returns
            exact ⟨by rw [hok.out]; simp [h2, h3], rfl⟩
          · have t3 : (y == 1) = false := by simp [h3]
            go_wp2_with fail
            refine HK.out.mono ?_
            rintro e w2 ⟨rfl, rfl⟩
            go_wp2
            go_returns
            exact ⟨by rw [hok.out]; simp [h1, h3], rfl⟩
        · have t2 : ((u : Int) == 1) = false := by simp; omega
          go_wp2_with fail
          refine HK.out.mono ?_
          rintro e w2 ⟨rfl, rfl⟩
          go_wp2
          go_returns
          exact ⟨by rw [hok.out]; simp [h1, h2], rfl⟩
end Go.Proofs.Ytcddlnmfdjfjfaa
