/- The walks of package huff: near, Cost. -/
import Derived.Test.YtdehkaknbmbieaaIntB
import Derived.Lib.MinMax
namespace Go.Proofs.Ytdehkaknbmbieaa
set_option linter.unusedVariables false
set_option linter.unusedSimpArgs false
set_option linter.unusedSectionVars false
open Go.RowKit
set_option linter.unusedVariables false

theorem run_min3 {P : Program} (w : World) (ts : Array TypeId) (t : TypeId) (k k' k'' : IntKind) (x y z : Int) :
    (Builtin.min_ ts t #[.int k x, .int k' y, .int k'' z]).run P w = .ok (.int k (min (min x y) z)) w := by
  have e : (if z < (if y < x then y else x) then z else (if y < x then y else x)) = min (min x y) z := by
    split <;> split <;> omega
  have h : (Builtin.min_ ts t #[.int k x, .int k' y, .int k'' z]).run P w = .ok (.int k (if z < (if y < x then y else x) then z else (if y < x then y else x))) w := by
    simp [Builtin.min_, Builtin.min2]
  rw [h, e]

def nearI (x : Int) : Int := max 0 (min x 1099511627776)
theorem nearI_b (x : Int) : 0 ≤ nearI x ∧ nearI x ≤ 1099511627776 := by unfold nearI; omega
theorem hnear_any (x : Int) (w : World) : Calls Try.prog 84 #[.int .i64 x] w fun e w' => e = .returned (.int .i64 (nearI x)) ∧ w = w' := by
  go_enter Try.func84, Try.ntmps84
  go_wp2
  go_returns
  exact ⟨rfl, rfl⟩

def hcostTo (l u : List Int) : Nat → Int
  | 0 => 0
  | i + 1 => hcostTo l u i + max 0 (min (l.getD i 0) 15) * nearI (u.getD i 0)
theorem hcostTo_b (l u : List Int) (i : Nat) : 0 ≤ hcostTo l u i ∧ hcostTo l u i ≤ i * 16492674416640 := by
  induction i with
  | zero => simp [hcostTo]
  | succ i ih =>
    simp only [hcostTo]
    have h := nearI_b (u.getD i 0)
    have h1 : 0 ≤ max 0 (min (l.getD i 0) 15) ∧ max 0 (min (l.getD i 0) 15) ≤ 15 := by omega
    generalize max 0 (min (l.getD i 0) 15) = a at *
    generalize nearI (u.getD i 0) = b at *
    have h2 : 0 ≤ a * b := Int.mul_nonneg h1.1 h.1
    have h3 : a * b ≤ 15 * 1099511627776 := Int.le_trans (Int.mul_le_mul_of_nonneg_right h1.2 h.1) (Int.mul_le_mul_of_nonneg_left h.2 (by decide))
    omega

set_option maxRecDepth 100000 in
set_option maxHeartbeats 3200000 in
theorem hcost_any (x y : Option Addr) (cx cy : Nat) (l u : List Int) (w : World) (hI : IntsIn w x l.length l) (hM : IntsIn w y u.length u) (hl : l.length ≤ 9223372036854775807) (hu : u.length ≤ 9223372036854775807) :
    Calls Try.prog 58 #[.slice x l.length cx, .slice y u.length cy] w fun e w' => e = .returned (.int .i64 (hcostTo l u (min (min l.length u.length) 300))) ∧ ∃ n, w' = w.drewN n := by
  have hN : Hid (min (min l.length u.length) 300 ≤ 300) := Lib.hid (by omega)
  have hNl : Hid (min (min l.length u.length) 300 ≤ l.length) := Lib.hid (by omega)
  have hNu : Hid (min (min l.length u.length) 300 ≤ u.length) := Lib.hid (by omega)
  have hNe : Hid (((min (min l.length u.length) 300 : Nat) : Int) = min (min (l.length : Int) (u.length : Int)) 300) := Lib.hid (by omega)
  generalize min (min l.length u.length) 300 = N at *
  have HI := Lib.hid hI
  have HM := Lib.hid hM
  clear hI hM
  go_enter Try.func58, Try.ntmps58
  have hN' := hN.out
  go_wp2_with fail
  rw [run_min3, ← hNe.out]
  go_wp2
  go_loopg [4, 11] N (fun g s4 s11 wr => ∃ i n, i ≤ N ∧ g = N - i ∧ s11 = .int .i64 (i : Nat) ∧ s4 = .int .i64 (hcostTo l u i) ∧ w.drewN n = wr)
  case atStart => exact ⟨0, 0, by omega, rfl, rfl, rfl, rfl⟩
  case round =>
    obtain ⟨i, n, hin, rfl, rfl, rfl, rfl⟩ := hrel
    have hcb := hcostTo_b l u i
    have hi300 : (i : Int) * 16492674416640 ≤ 300 * 16492674416640 := by omega
    by_cases hc : i < N
    · have hcz : (i : Int) < (N : Int) := by omega
      have hil : i < l.length := by have := hNl.out; omega
      have hiu : i < u.length := by have := hNu.out; omega
      obtain ⟨b1, o1, rfl, c1, r1, r2⟩ := HI.out.cell i hil
      obtain ⟨b2, o2, rfl, c2, r3, r4⟩ := HM.out.cell i hiu
      have hst := Lib.hid (show hcostTo l u (i + 1) = hcostTo l u i + max 0 (min (l[i]) 15) * nearI (u[i]) by
        simp only [hcostTo, List.getD, List.getElem?_eq_getElem hil, List.getElem?_eq_getElem hiu, Option.getD])
      have hz : decide ((l.length : Int) ≤ (i : Int)) = false := by simp; omega
      have hz2 : decide ((u.length : Int) ≤ (i : Int)) = false := by simp; omega
      have hnb := nearI_b u[i]
      generalize u[i] = y at *
      generalize l[i] = x at *
      have hab : 0 ≤ max 0 (min x 15) ∧ max 0 (min x 15) ≤ 15 := by omega
      have h2 : 0 ≤ max 0 (min x 15) * nearI y := Int.mul_nonneg hab.1 hnb.1
      have h3 : max 0 (min x 15) * nearI y ≤ 16492674416640 := Int.le_trans (Int.mul_le_mul_of_nonneg_right hab.2 hnb.1) (Int.mul_le_mul_of_nonneg_left hnb.2 (by decide))
      generalize hcostTo l u i = c at *
      have d1 : (w.drewN n).cell? ⟨b1, o1 + i, none⟩ = some (.int .i64 x) := c1
      have d2 : (w.drewN n).cell? ⟨b2, o2 + i, none⟩ = some (.int .i64 y) := c2
      clear c1 c2
      generalize hw1 : w.drewN n = w1 at *
      have HW := Lib.hid hw1
      clear hw1
      have HN := Lib.hid (fun w' => hnear_any y w')
      generalize nearI y = ny at *
      clear hN'
      go_wp2
      go_quiet ((go_at_call 84; exact Calls.quiet_of_same ((HN.out _).mono fun e w' ⟨he, hw⟩ => ⟨he, hw.symm⟩)))
      go_wp2
      go_roundg (N - (i + 1))
      case measure => omega
      case rel => exact ⟨i + 1, n + nq, by omega, rfl, by go_num, by rw [hst.out], by rw [← HW.out]; simp⟩
    · have hcz : ¬ (i : Int) < (N : Int) := by omega
      have hi : i = N := by omega
      rw [hi]
      clear hi hc
      generalize hcc : hcostTo l u N = c at *
      have HCC := Lib.hid hcc
      clear hcc
      go_wp2
      go_returns
      exact ⟨by rw [HCC.out]; rfl, n, rfl⟩
end Go.Proofs.Ytdehkaknbmbieaa
