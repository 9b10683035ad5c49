/- Package swingleref12: Split, Right; dos.Right, swingleref14.time: walks. -/
import Derived.Test.YtdehkaknbmbieaaDosD
namespace Go.Proofs.Ytdehkaknbmbieaa
set_option linter.unusedVariables false
set_option linter.unusedSimpArgs false
set_option linter.unusedSectionVars false
open Go.RowKit
set_option linter.unusedVariables false

def timeB (t : Nat) : Bool := rightB (1980 + (t : Int) / 33554432 % 128) ((t : Int) / 2097152 % 16) ((t : Int) / 65536 % 32) ((t : Int) / 2048 % 32) ((t : Int) / 32 % 64) (2 * ((t : Int) % 32))
theorem parts_ok (t : Nat) : PartsOk (1980 + (t : Int) / 33554432 % 128) ((t : Int) / 2097152 % 16) ((t : Int) / 65536 % 32) ((t : Int) / 2048 % 32) ((t : Int) / 32 % 64) (2 * ((t : Int) % 32)) := by
  constructor <;> omega
set_option maxRecDepth 100000 in
set_option maxHeartbeats 3200000 in
theorem rsplit_any (t : Nat) (w : World) (ht : t < 4294967296) : Calls Try.prog 100 #[.int .u32 (t : Nat)] w fun e w' => e = .returned (.agg (partsL t).toArray) ∧ Upd [] w w' := by
  have e1 : (t : Int) / 33554432 % 128 = (t : Int) / 32 / 64 / 32 / 32 / 16 := by omega
  have e2 : (t : Int) / 2097152 % 16 = (t : Int) / 32 / 64 / 32 / 32 % 16 := by omega
  have e3 : (t : Int) / 65536 % 32 = (t : Int) / 32 / 64 / 32 % 32 := by omega
  have e4 : (t : Int) / 2048 % 32 = (t : Int) / 32 / 64 % 32 := by omega
  have HP := Lib.hid (show partsL t = [.int .i64 (1980 + (t : Int) / 32 / 64 / 32 / 32 / 16), .int .i64 ((t : Int) / 32 / 64 / 32 / 32 % 16), .int .i64 ((t : Int) / 32 / 64 / 32 % 32), .int .i64 ((t : Int) / 32 / 64 % 32), .int .i64 ((t : Int) / 32 % 64), .int .i64 (2 * ((t : Int) % 32))] from by unfold partsL; rw [e1, e2, e3, e4])
  clear e1 e2 e3 e4
  go_enter Try.func100, Try.ntmps100
  go_wp2
  have hB := (Blk.new w [.int .i64 (1980 + (t : Int) / 32 / 64 / 32 / 32 / 16), .int .i64 ((t : Int) / 32 / 64 / 32 / 32 % 16), .int .i64 ((t : Int) / 32 / 64 / 32 % 32), .int .i64 ((t : Int) / 32 / 64 % 32), .int .i64 ((t : Int) / 32 % 64), .int .i64 (2 * ((t : Int) % 32))] 157).alloc (Obj.cells #[.int .i64 (1980 + (t : Int) / 32 / 64 / 32 / 32 / 16), .int .i64 ((t : Int) / 32 / 64 / 32 / 32 % 16), .int .i64 ((t : Int) / 32 / 64 / 32 % 32), .int .i64 ((t : Int) / 32 / 64 % 32), .int .i64 ((t : Int) / 32 % 64), .int .i64 (2 * ((t : Int) % 32))] 157)
  rw [HP.out]
  refine bodyPost_ret (results_cell_row rfl _ _ w.heap.size 157 _ (0, 0) _ (by simp) hB Try.underlying157 rfl (by rw [infoRT]; rfl)) (by simp) ⟨rfl, ?_⟩
  exact ((Upd.refl [] w).alloc _).alloc _
theorem rightB_ref {y m d h mi s : Int} : rightB y m d h mi s = (decide (1 ≤ d) && decide (d ≤ daysN y m) && decide (h ≤ 23) && decide (mi ≤ 59) && (decide (s ≤ 58) && decide (s % 2 = 0))) := by
  unfold rightB
  have e1 : decide (h < 24) = decide (h ≤ 23) := decide_eq_decide.2 (by omega)
  have e2 : decide (mi < 60) = decide (mi ≤ 59) := decide_eq_decide.2 (by omega)
  have e3 : (decide (s < 60) && decide (s % 2 = 0)) = (decide (s ≤ 58) && decide (s % 2 = 0)) := by
    rw [← Bool.decide_and, ← Bool.decide_and]; exact decide_eq_decide.2 (by omega)
  rw [e1, e2, Bool.and_assoc, e3]
set_option maxRecDepth 100000 in
set_option maxHeartbeats 6400000 in
theorem rright_any (y m d h mi s : Int) (w : World) (hp : PartsOk y m d h mi s) :
    Calls Try.prog 99 #[.agg #[.int .i64 y, .int .i64 m, .int .i64 d, .int .i64 h, .int .i64 mi, .int .i64 s]] w fun e w' => e = .returned (.bool (rightB y m d h mi s)) ∧ Upd [] w w' := by
  obtain ⟨y0, y1, m0, m1, d0, d1, h0, h1, i0, i1, s0, s1⟩ := hp
  have HD := Lib.hid (fun w' => rdays_any y m w' y0 y1 m0 m1)
  have HRB := Lib.hid (rightB_ref (y := y) (m := m) (d := d) (h := h) (mi := mi) (s := s))
  have u1 : decide (0 ≤ h) = true := decide_eq_true h0
  have u2 : decide (0 ≤ mi) = true := decide_eq_true i0
  have u3 : decide (0 ≤ s) = true := decide_eq_true s0
  generalize rightB y m d h mi s = B at *
  generalize daysN y m = D at *
  go_enter Try.func99, Try.ntmps99
  go_upto_region 1 with fail
  have hB := Blk.new w [.int .i64 y, .int .i64 m, .int .i64 d, .int .i64 h, .int .i64 mi, .int .i64 s] 157
  have hU : Upd [] w (w.alloc (.cells #[.int .i64 y, .int .i64 m, .int .i64 d, .int .i64 h, .int .i64 mi, .int .i64 s] 157)) := (Upd.refl [] w).alloc _
  change Code.wp _ _ _ _ (w.alloc (.cells #[.int .i64 y, .int .i64 m, .int .i64 d, .int .i64 h, .int .i64 mi, .int .i64 s] 157))
  generalize w.alloc (.cells #[.int .i64 y, .int .i64 m, .int .i64 d, .int .i64 h, .int .i64 mi, .int .i64 s] 157) = w1 at *
  generalize hb : w.heap.size = b at *
  have HW := Lib.hid hb
  clear hb
  have c0 := hB.cell 0 rfl
  have c1 := hB.cell 1 rfl
  have c2 := hB.cell 2 rfl
  have c3 := hB.cell 3 rfl
  have c4 := hB.cell 4 rfl
  have c5 := hB.cell 5 rfl
  by_cases k1 : 1 ≤ d
  · by_cases k2 : d ≤ D
    · by_cases k3 : h ≤ 23
      · by_cases k4 : mi ≤ 59
        · by_cases k5 : s ≤ 58
          · have t1 : decide (1 ≤ d) = true := decide_eq_true k1
            have t2 : decide (d ≤ D) = true := decide_eq_true k2
            have t3 : decide (h ≤ 23) = true := decide_eq_true k3
            have t4 : decide (mi ≤ 59) = true := decide_eq_true k4
            have t5 : decide (s ≤ 58) = true := decide_eq_true k5
            go_quiet ((go_at_call 129; exact Calls.quiet_of_same ((HD.out _).mono fun _ _ ⟨h1, h2⟩ => ⟨h1, h2.symm⟩)))
            go_wp2
            go_returns
            exact ⟨by rw [HRB.out, t1, t2, t3, t4, t5]; show Ending.returned (.bool (s % 2 == 0)) = _; by_cases e : s % 2 = 0 <;> simp [e], hU.drewN _⟩
          · have t1 : decide (1 ≤ d) = true := decide_eq_true k1
            have t2 : decide (d ≤ D) = true := decide_eq_true k2
            have t3 : decide (h ≤ 23) = true := decide_eq_true k3
            have t4 : decide (mi ≤ 59) = true := decide_eq_true k4
            have t5 : decide (s ≤ 58) = false := decide_eq_false k5
            go_quiet ((go_at_call 129; exact Calls.quiet_of_same ((HD.out _).mono fun _ _ ⟨h1, h2⟩ => ⟨h1, h2.symm⟩)))
            go_wp2
            go_returns
            exact ⟨by rw [HRB.out, t1, t2, t3, t4]; show Ending.returned (.bool false) = _; rw [show (decide (s ≤ 58) && decide (s % 2 = 0)) = false from by rw [t5]; rfl]; rfl, hU.drewN _⟩
        · have t1 : decide (1 ≤ d) = true := decide_eq_true k1
          have t2 : decide (d ≤ D) = true := decide_eq_true k2
          have t3 : decide (h ≤ 23) = true := decide_eq_true k3
          have t4 : decide (mi ≤ 59) = false := decide_eq_false k4
          go_quiet ((go_at_call 129; exact Calls.quiet_of_same ((HD.out _).mono fun _ _ ⟨h1, h2⟩ => ⟨h1, h2.symm⟩)))
          go_wp2
          go_returns
          exact ⟨by rw [HRB.out, t1, t2, t3, t4]; rfl, hU.drewN _⟩
      · have t1 : decide (1 ≤ d) = true := decide_eq_true k1
        have t2 : decide (d ≤ D) = true := decide_eq_true k2
        have t3 : decide (h ≤ 23) = false := decide_eq_false k3
        go_quiet ((go_at_call 129; exact Calls.quiet_of_same ((HD.out _).mono fun _ _ ⟨h1, h2⟩ => ⟨h1, h2.symm⟩)))
        go_wp2
        go_returns
        exact ⟨by rw [HRB.out, t1, t2, t3]; rfl, hU.drewN _⟩
    · have t1 : decide (1 ≤ d) = true := decide_eq_true k1
      have t2 : decide (d ≤ D) = false := decide_eq_false k2
      go_quiet ((go_at_call 129; exact Calls.quiet_of_same ((HD.out _).mono fun _ _ ⟨h1, h2⟩ => ⟨h1, h2.symm⟩)))
      go_wp2
      go_returns
      exact ⟨by rw [HRB.out, t1, t2]; rfl, hU.drewN _⟩
  · have t1 : decide (1 ≤ d) = false := decide_eq_false k1
    go_quiet ((go_at_call 129; exact Calls.quiet_of_same ((HD.out _).mono fun _ _ ⟨h1, h2⟩ => ⟨h1, h2.symm⟩)))
    go_wp2
    go_returns
    exact ⟨by rw [HRB.out, t1]; rfl, hU.drewN _⟩
theorem refTime_any (t : Nat) (w : World) (ht : t < 4294967296) : Calls Try.prog 72 #[.int .u32 (t : Nat)] w fun e w' => e = .returned (.bool (timeB t)) ∧ Upd [] w w' := by
  have HS := Lib.hid (rsplit_any t w ht)
  have HR := Lib.hid (fun w' => rright_any _ _ _ _ _ _ w' (parts_ok t))
  have HT := Lib.hid (show timeB t = rightB (1980 + (t : Int) / 33554432 % 128) ((t : Int) / 2097152 % 16) ((t : Int) / 65536 % 32) ((t : Int) / 2048 % 32) ((t : Int) / 32 % 64) (2 * ((t : Int) % 32)) from rfl)
  unfold partsL at HS
  go_enter Try.func72, Try.ntmps72
  go_wp2_with fail
  refine HS.out.mono ?_
  rintro e w1 ⟨rfl, hU1⟩
  go_wp2_with fail
  refine (HR.out w1).mono ?_
  rintro e w2 ⟨rfl, hU2⟩
  go_wp2
  go_returns
  exact ⟨by rw [HT.out]; rfl, hU1.then hU2⟩
end Go.Proofs.Ytdehkaknbmbieaa
