/- Package dos: From, at whole days: its walk. -/
import Derived.Test.YtdehkaknbmbieaaDOf
import Derived.Test.YtdehkaknbmbieaaDosE
namespace Go.Proofs.Ytdehkaknbmbieaa
set_option linter.unusedVariables false
set_option linter.unusedSimpArgs false
set_option linter.unusedSectionVars false
open Go.RowKit
set_option linter.unusedVariables false
set_option linter.unusedSimpArgs false

theorem daysN_bd (y m : Int) (h1 : 1 ≤ m) (h2 : m ≤ 12) : 28 ≤ daysN y m ∧ daysN y m ≤ 31 := by
  unfold daysN
  repeat' split
  all_goals omega
/-- How many days a month has, months told from 1980 on. -/
def monD (i : Nat) : Nat := (daysN ((1980 + i / 12 : Nat) : Int) ((i % 12 + 1 : Nat) : Int)).toNat
theorem monD_bd (i : Nat) : 28 ≤ monD i ∧ monD i ≤ 31 := by
  have := daysN_bd ((1980 + i / 12 : Nat) : Int) ((i % 12 + 1 : Nat) : Int) (by omega) (by omega)
  unfold monD
  omega
theorem monD_eq (i : Nat) : daysN ((1980 + i / 12 : Nat) : Int) ((i % 12 + 1 : Nat) : Int) = (monD i : Int) := by
  have := daysN_bd ((1980 + i / 12 : Nat) : Int) ((i % 12 + 1 : Nat) : Int) (by omega) (by omega)
  unfold monD
  omega
def cumD : Nat → Nat
  | 0 => 0
  | i + 1 => cumD i + monD i
theorem cumD_succ (i : Nat) : cumD (i + 1) = cumD i + monD i := by rw [cumD]
theorem cumD_le (i : Nat) : 28 * i ≤ cumD i := by
  induction i with
  | zero => simp [cumD]
  | succ i ih => have := monD_bd i; rw [cumD_succ]; omega
theorem cumD_mono {i j : Nat} (h : i ≤ j) : cumD i ≤ cumD j := by
  induction j with
  | zero => obtain rfl : i = 0 := by omega
            exact Nat.le_refl _
  | succ j ih =>
    rcases Nat.lt_or_ge i (j + 1) with h1 | h1
    · have := ih (by omega); rw [cumD_succ]; omega
    · obtain rfl : i = j + 1 := by omega
      exact Nat.le_refl _
theorem cumD_uniq {d i j : Nat} (h1 : cumD i ≤ d) (h2 : d < cumD (i + 1)) (h3 : cumD j ≤ d) (h4 : d < cumD (j + 1)) : i = j := by
  rcases Nat.lt_trichotomy i j with h | h | h
  · have := cumD_mono (show i + 1 ≤ j by omega); omega
  · exact h
  · have := cumD_mono (show j + 1 ≤ i by omega); omega
/-- The time that begins a day. -/
def DayT (d t : Nat) : Prop := ∃ i, cumD i ≤ d ∧ d < cumD (i + 1) ∧ t = ofN (1980 + i / 12) (i % 12 + 1) (d - cumD i + 1) 0 0 0
theorem DayT.uniq {d t u : Nat} (h : DayT d t) (k : DayT d u) : t = u := by
  obtain ⟨i, h1, h2, rfl⟩ := h
  obtain ⟨j, k1, k2, rfl⟩ := k
  obtain rfl := cumD_uniq h1 h2 k1 k2
  rfl
theorem DayT.right {d t : Nat} (hd : d < 40000) (h : DayT d t) : t < 4294967296 ∧ timeB t = true := by
  obtain ⟨i, h1, h2, rfl⟩ := h
  have h3 := cumD_le i
  have hb := monD_bd i
  have he := monD_eq i
  rw [cumD_succ] at h2
  generalize cumD i = c at *
  generalize monD i = M at *
  obtain ⟨a, ha⟩ : ∃ a, i / 12 = a := ⟨_, rfl⟩
  obtain ⟨m, hm⟩ : ∃ m, i % 12 + 1 = m := ⟨_, rfl⟩
  have hm1 : 1 ≤ m ∧ m ≤ 12 := by omega
  have ha1 : a ≤ 120 := by omega
  obtain ⟨q, hq⟩ : ∃ q, d - c + 1 = q := ⟨_, rfl⟩
  rw [ha, hm, hq]
  rw [ha, hm] at he
  have hq1 : 1 ≤ q ∧ q ≤ M := by omega
  have ho : ofN (1980 + a) m q 0 0 0 = a * 33554432 + m * 2097152 + q * 65536 := by unfold ofN; omega
  rw [ho]
  refine ⟨by omega, ?_⟩
  unfold timeB rightB
  have e1 : 1980 + ((a * 33554432 + m * 2097152 + q * 65536 : Nat) : Int) / 33554432 % 128 = ((1980 + a : Nat) : Int) := by omega
  have e2 : ((a * 33554432 + m * 2097152 + q * 65536 : Nat) : Int) / 2097152 % 16 = (m : Int) := by omega
  have e3 : ((a * 33554432 + m * 2097152 + q * 65536 : Nat) : Int) / 65536 % 32 = (q : Int) := by omega
  have e4 : ((a * 33554432 + m * 2097152 + q * 65536 : Nat) : Int) / 2048 % 32 = 0 := by omega
  have e5 : ((a * 33554432 + m * 2097152 + q * 65536 : Nat) : Int) / 32 % 64 = 0 := by omega
  have e6 : ((a * 33554432 + m * 2097152 + q * 65536 : Nat) : Int) % 32 = 0 := by omega
  rw [e1, e2, e3, e4, e5, e6, he]
  simp only [Bool.and_eq_true, decide_eq_true_eq]
  omega
def FromP (d : Nat) (w : World) (e : Ending) (w' : World) : Prop := ∃ t : Nat, e = .returned (.tuple #[.int .u32 (t : Nat), .bool true]) ∧ DayT d t ∧ Upd [] w w'
set_option maxRecDepth 100000 in
set_option maxHeartbeats 3200000 in
theorem dfrom_any (d : Nat) (w : World) (hd : d < 40000) : Calls Try.prog 70 #[.int .i64 ((d * 86400 : Nat) : Int)] w fun e w' => FromP d w e w' := by
  have hn0 : ¬ ((d * 86400 : Nat) : Int) < 0 := by omega
  have hq : ((d * 86400 : Nat) : Int).tdiv 86400 = (d : Int) := by rw [Int.tdiv_eq_ediv_of_nonneg (by omega)]; omega
  have hr : ((d * 86400 : Nat) : Int).tmod 86400 = 0 := by rw [Int.tmod_eq_emod_of_nonneg (by omega)]; omega
  have hq2 : ((d * 86400 : Nat) : Int) / 86400 = (d : Int) := by omega
  have hr2 : ((d * 86400 : Nat) : Int) % 86400 = 0 := by omega
  generalize hN : ((d * 86400 : Nat) : Int) = N at *
  have hwd : IntKind.i64.wrap (d : Int) = (d : Int) := IntWalk.i64_in _ (by omega)
  clear hN
  go_enter Try.func70, Try.ntmps70
  go_wp2
  generalize hwb : w.alloc (.cells #[.int .i64 1980, .int .i64 1, .int .i64 0, .int .i64 0, .int .i64 0, .int .i64 0] 154) = wb at *
  have hB0 : Blk wb w.heap.size [.int .i64 1980, .int .i64 1, .int .i64 0, .int .i64 0, .int .i64 0, .int .i64 0] 154 := by rw [← hwb]; exact Blk.new w _ _
  have hU0 : Upd [] w wb := by rw [← hwb]; exact (Upd.refl [] w).alloc _
  clear hwb hn0 hq hr hq2 hr2 hwd
  generalize hc0 : w.heap.size = c0 at *
  have HB0 := Lib.hid hB0
  have HU0 := Lib.hid hU0
  have HC0 := Lib.hid hc0
  clear hc0 hB0 hU0
  go_loopg [4] 1500 (fun gg s4 wr => ∃ i : Nat, Hid (cumD i ≤ d) ∧ gg = 1500 - i ∧ s4 = .int .i64 ((d - cumD i : Nat) : Int) ∧ Hid (Blk wr c0 [.int .i64 ((1980 + i / 12 : Nat) : Int), .int .i64 ((i % 12 + 1 : Nat) : Int), .int .i64 0, .int .i64 0, .int .i64 0, .int .i64 0] 154) ∧ Hid (Upd [] w wr))
  case atStart => exact ⟨0, Lib.hid (by simp [cumD]), rfl, by rw [show cumD 0 = 0 from rfl]; rfl, HB0, HU0⟩
  case round =>
    obtain ⟨i, HC, rfl, rfl, HB, HU⟩ := hrel
    have hi1 : i ≤ 1428 := by have := cumD_le i; have := HC.out; omega
    obtain ⟨y, hy⟩ : ∃ y, 1980 + i / 12 = y := ⟨_, rfl⟩
    obtain ⟨m, hm⟩ : ∃ m, i % 12 + 1 = m := ⟨_, rfl⟩
    have hm1 : 1 ≤ m ∧ m ≤ 12 := by omega
    have hy1 : 1980 ≤ y ∧ y ≤ 2099 := by omega
    have hME := monD_eq i
    have hMB := monD_bd i
    have HS : Hid (cumD (i + 1) = cumD i + monD i) := Lib.hid (cumD_succ i)
    rw [hy, hm] at hME HB
    have HDY := Lib.hid (fun w' => show Calls Try.prog 96 #[.int .i64 (y : Int), .int .i64 (m : Int)] w' fun e w2 => e = .returned (.int .i64 (monD i : Int)) ∧ Upd [] w' w2 by rw [← hME]; exact ddays_any y m w' (by omega) (by omega) (by omega) (by omega))
    have hmx : max (monD i : Int) 1 = (monD i : Int) := by omega
    have HX : Hid (d < cumD (i + 1) → DayT d (ofN y m (d - cumD i + 1) 0 0 0)) := Lib.hid (fun h => ⟨i, HC.out, h, by rw [hy, hm]⟩)
    have HR : Hid (∀ q : Nat, 1 ≤ q → q ≤ monD i → rightG (y : Int) (m : Int) (q : Int) 0 0 0 = true) := Lib.hid (fun q h1 h2 => by
      unfold rightG daysG
      rw [if_neg (by omega), hME]
      simp only [Bool.and_eq_true, decide_eq_true_eq]
      omega)
    have HM := Lib.hid hME
    clear hME
    obtain ⟨r, hr⟩ : ∃ r, d - cumD i = r := ⟨_, rfl⟩
    have hrc : d = cumD i + r := by have := HC.out; omega
    have HRC := Lib.hid hrc
    rw [hr]
    have HRR := Lib.hid hr
    have hr4 : r < 40000 := by omega
    generalize hMn : monD i = M at *
    have HYE := Lib.hid hy
    have HME := Lib.hid hm
    clear hr hrc hy hm hMn
    have c0' := HB.out.cell 0 rfl
    have c1' := HB.out.cell 1 rfl
    by_cases hge : M ≤ r
    · have hgez : (M : Int) ≤ (r : Int) := by omega
      have hws : IntKind.i64.wrap ((r : Int) - (M : Int)) = ((r - M : Nat) : Int) := by rw [IntWalk.i64_in _ (by omega)]; omega
      have hwm : IntKind.i64.wrap ((m : Int) + 1) = ((m + 1 : Nat) : Int) := by rw [IntWalk.i64_in _ (by omega)]; rfl
      have hwy : IntKind.i64.wrap ((y : Int) + 1) = ((y + 1 : Nat) : Int) := by rw [IntWalk.i64_in _ (by omega)]; rfl
      go_wp2_with fail
      refine (HDY.out _).mono ?_
      rintro e w2 ⟨rfl, hU2⟩
      have HB2 := Lib.hid (HB.out.upd hU2 (by simp))
      have HU2 := Lib.hid (HU.out.then hU2)
      have c02 := HB2.out.cell 0 rfl
      have c12 := HB2.out.cell 1 rfl
      clear hU2
      go_wp2_with fail
      refine (HDY.out _).mono ?_
      rintro e w3 ⟨rfl, hU3⟩
      have HB3 := Lib.hid (HB2.out.upd hU3 (by simp))
      have HU3 := Lib.hid (HU2.out.then hU3)
      have c03 := HB3.out.cell 0 rfl
      have c13 := HB3.out.cell 1 rfl
      have f03 := HB3.out.frz 0
      have f13 := HB3.out.frz 1
      clear hU3
      have HC2 : Hid (cumD (i + 1) ≤ d) := Lib.hid (by have := HS.out; have := HRC.out; omega)
      have HD2 : Hid (d - cumD (i + 1) = r - M) := Lib.hid (by have := HS.out; have := HRC.out; omega)
      by_cases h12 : m = 12
      · subst h12
        have HB4 : Hid (Blk (((w3.setCell ⟨c0, 1, none⟩ (.int .i64 13)).setCell ⟨c0, 0, none⟩ (.int .i64 ((y : Int) + 1))).setCell ⟨c0, 1, none⟩ (.int .i64 1)) c0 [.int .i64 ((1980 + (i + 1) / 12 : Nat) : Int), .int .i64 (((i + 1) % 12 + 1 : Nat) : Int), .int .i64 0, .int .i64 0, .int .i64 0, .int .i64 0] 154) := Lib.hid (by
          have h := ((HB3.out.set 1 (.int .i64 13)).set 0 (.int .i64 ((y : Int) + 1))).set 1 (.int .i64 1)
          rw [show ((1980 + (i + 1) / 12 : Nat) : Int) = (y : Int) + 1 by have := HYE.out; have := HME.out; omega, show (((i + 1) % 12 + 1 : Nat) : Int) = 1 by have := HME.out; omega]
          exact h)
        have HU4 : Hid (Upd [] w (((w3.setCell ⟨c0, 1, none⟩ (.int .i64 13)).setCell ⟨c0, 0, none⟩ (.int .i64 ((y : Int) + 1))).setCell ⟨c0, 1, none⟩ (.int .i64 1))) := Lib.hid (((HU3.out.setCell (.inr (by rw [HC0.out]; exact Nat.le_refl _)) _).setCell (.inr (by rw [HC0.out]; exact Nat.le_refl _)) _).setCell (.inr (by rw [HC0.out]; exact Nat.le_refl _)) _)
        go_wp2
        go_roundg (1500 - (i + 1))
        · exact ⟨i + 1, HC2, rfl, by rw [HD2.out], HB4, HU4⟩
        · omega
      · have h12z : ¬ (12 : Int) < (m : Int) + 1 := by omega
        have HB4 : Hid (Blk (w3.setCell ⟨c0, 1, none⟩ (.int .i64 ((m : Int) + 1))) c0 [.int .i64 ((1980 + (i + 1) / 12 : Nat) : Int), .int .i64 (((i + 1) % 12 + 1 : Nat) : Int), .int .i64 0, .int .i64 0, .int .i64 0, .int .i64 0] 154) := Lib.hid (by
          have h := HB3.out.set 1 (.int .i64 ((m : Int) + 1))
          rw [show ((1980 + (i + 1) / 12 : Nat) : Int) = (y : Int) by have := HYE.out; have := HME.out; omega, show (((i + 1) % 12 + 1 : Nat) : Int) = (m : Int) + 1 by have := HME.out; omega]
          exact h)
        have HU4 : Hid (Upd [] w (w3.setCell ⟨c0, 1, none⟩ (.int .i64 ((m : Int) + 1)))) := Lib.hid (HU3.out.setCell (.inr (by rw [HC0.out]; exact Nat.le_refl _)) _)
        have hyz : ¬ (2107 : Int) < (y : Int) := by omega
        go_wp2
        go_roundg (1500 - (i + 1))
        · exact ⟨i + 1, HC2, rfl, by rw [HD2.out], HB4, HU4⟩
        · omega
    · have hgez : ¬ (M : Int) ≤ (r : Int) := by omega
      go_wp2_with fail
      refine (HDY.out _).mono ?_
      rintro e w2 ⟨rfl, hU2⟩
      have HB2 := Lib.hid (HB.out.upd hU2 (by simp))
      have HU2 := Lib.hid (HU.out.then hU2)
      have c22 := HB2.out.cell 2 rfl
      have f22 := HB2.out.frz 2
      have hwr : IntKind.i64.wrap ((r : Int) + 1) = (r : Int) + 1 := IntWalk.i64_in _ (by omega)
      clear hU2
      have HB3 := HB2.out.set 2 (.int .i64 ((r : Int) + 1))
      have d0 := HB3.cell 0 rfl
      have d1 := HB3.cell 1 rfl
      have d2 := HB3.cell 2 rfl
      have d3 := HB3.cell 3 rfl
      have d4 := HB3.cell 4 rfl
      have d5 := HB3.cell 5 rfl
      have HOF := Lib.hid (fun w' => dosOf_any (y : Int) (m : Int) ((r : Int) + 1) 0 0 0 w')
      have HRG := HR.out (r + 1) (by omega) (by omega)
      rw [show ((r + 1 : Nat) : Int) = (r : Int) + 1 from rfl] at HRG
      have HV : Hid (ofV (y : Int) (m : Int) ((r : Int) + 1) 0 0 0 = .tuple #[.int .u32 (ofN y m (r + 1) 0 0 0 : Nat), .bool true]) := Lib.hid (by
        unfold ofV
        rw [if_pos HRG]
        rw [show ((r : Int) + 1).toNat = r + 1 by omega, show (y : Int).toNat = y by omega, show (m : Int).toNat = m by omega]
        rfl)
      clear HRG HB3
      rw [HV.out] at HOF
      have HU3 := Lib.hid (HU2.out.setCell (p := ⟨c0, 2, none⟩) (.inr (by rw [HC0.out]; exact Nat.le_refl _)) (.int .i64 ((r : Int) + 1)))
      go_wp2_with fail
      refine (HOF.out _).mono ?_
      rintro e w4 ⟨rfl, hU4⟩
      have HU4 := Lib.hid (HU3.out.then hU4)
      have HLT : Hid (d < cumD (i + 1)) := Lib.hid (by have := HS.out; have := HRC.out; omega)
      clear hU4
      go_wp2
      go_returns
      exact ⟨_, rfl, by have := HX.out HLT.out; rw [HRR.out] at this; exact this, HU4.out⟩
end Go.Proofs.Ytdehkaknbmbieaa
