/- Package swingleref12: Split, Right; dos.Right, swingleref14.time: walks. -/
import Derived.Test.YtigjingielnaoaaGreatDoorDosD
import Derived.Lib.SlBytesConst
namespace Go.Proofs.YtigjingielnaoaaGreatDoor
set_option linter.unusedVariables false
set_option linter.unusedSimpArgs false
set_option linter.unusedSectionVars false
open Go.RowKit
set_option linter.unusedVariables false

def timeB (t : Nat) : Bool := rightB (1980 + (t : Int) / 33554432 % 128) ((t : Int) / 2097152 % 16) ((t : Int) / 65536 % 32) ((t : Int) / 2048 % 32) ((t : Int) / 32 % 64) (2 * ((t : Int) % 32))
theorem parts_ok (t : Nat) : PartsOk (1980 + (t : Int) / 33554432 % 128) ((t : Int) / 2097152 % 16) ((t : Int) / 65536 % 32) ((t : Int) / 2048 % 32) ((t : Int) / 32 % 64) (2 * ((t : Int) % 32)) := by
  constructor <;> omega
theorem dosRight_any (t : Nat) (w : World) (ht : t < 4294967296) : Calls Tryz.prog 107 #[.int .u32 (t : Nat)] w fun e w' => e = .returned (.bool (timeB t)) ∧ Upd [] w w' := by
  have HS := Lib.hid (dsplit_any t w ht)
  have HR := Lib.hid (fun w' => dright_any _ _ _ _ _ _ w' (parts_ok t))
  have HT := Lib.hid (show timeB t = rightB (1980 + (t : Int) / 33554432 % 128) ((t : Int) / 2097152 % 16) ((t : Int) / 65536 % 32) ((t : Int) / 2048 % 32) ((t : Int) / 32 % 64) (2 * ((t : Int) % 32)) from rfl)
  unfold partsL at HS
  go_enter Tryz.func107, Tryz.ntmps107
  go_wp2_with fail
  refine HS.out.mono ?_
  rintro e w1 ⟨rfl, hU1⟩
  go_wp2_with fail
  refine (HR.out w1).mono ?_
  rintro e w2 ⟨rfl, hU2⟩
  go_wp2
  go_returns
  exact ⟨by rw [HT.out]; rfl, hU1.then hU2⟩

set_option maxRecDepth 100000 in
set_option maxHeartbeats 3200000 in
theorem rsplit_any (t : Nat) (w : World) (ht : t < 4294967296) : Calls Tryz.prog 55 #[.int .u32 (t : Nat)] w fun e w' => e = .returned (.agg (partsL t).toArray) ∧ Upd [] w w' := by
  have e1 : (t : Int) / 33554432 % 128 = (t : Int) / 32 / 64 / 32 / 32 / 16 := by omega
  have e2 : (t : Int) / 2097152 % 16 = (t : Int) / 32 / 64 / 32 / 32 % 16 := by omega
  have e3 : (t : Int) / 65536 % 32 = (t : Int) / 32 / 64 / 32 % 32 := by omega
  have e4 : (t : Int) / 2048 % 32 = (t : Int) / 32 / 64 % 32 := by omega
  have HP := Lib.hid (show partsL t = [.int .i64 (1980 + (t : Int) / 32 / 64 / 32 / 32 / 16), .int .i64 ((t : Int) / 32 / 64 / 32 / 32 % 16), .int .i64 ((t : Int) / 32 / 64 / 32 % 32), .int .i64 ((t : Int) / 32 / 64 % 32), .int .i64 ((t : Int) / 32 % 64), .int .i64 (2 * ((t : Int) % 32))] from by unfold partsL; rw [e1, e2, e3, e4])
  clear e1 e2 e3 e4
  go_enter Tryz.func55, Tryz.ntmps55
  go_wp2
  have hB := (Blk.new w [.int .i64 (1980 + (t : Int) / 32 / 64 / 32 / 32 / 16), .int .i64 ((t : Int) / 32 / 64 / 32 / 32 % 16), .int .i64 ((t : Int) / 32 / 64 / 32 % 32), .int .i64 ((t : Int) / 32 / 64 % 32), .int .i64 ((t : Int) / 32 % 64), .int .i64 (2 * ((t : Int) % 32))] 93).alloc (Obj.cells #[.int .i64 (1980 + (t : Int) / 32 / 64 / 32 / 32 / 16), .int .i64 ((t : Int) / 32 / 64 / 32 / 32 % 16), .int .i64 ((t : Int) / 32 / 64 / 32 % 32), .int .i64 ((t : Int) / 32 / 64 % 32), .int .i64 ((t : Int) / 32 % 64), .int .i64 (2 * ((t : Int) % 32))] 93)
  rw [HP.out]
  refine bodyPost_ret (results_cell_row rfl _ _ w.heap.size 93 _ (0, 0) _ (by simp) hB Tryz.underlying93 rfl (by rw [infoRT]; rfl)) (by simp) ⟨rfl, ?_⟩
  exact ((Upd.refl [] w).alloc _).alloc _
theorem rightB_ref {y m d h mi s : Int} : rightB y m d h mi s = (decide (1 ≤ d) && decide (d ≤ daysN y m) && decide (h ≤ 23) && decide (mi ≤ 59) && (decide (s ≤ 58) && decide (s % 2 = 0))) := by
  unfold rightB
  have e1 : decide (h < 24) = decide (h ≤ 23) := decide_eq_decide.2 (by omega)
  have e2 : decide (mi < 60) = decide (mi ≤ 59) := decide_eq_decide.2 (by omega)
  have e3 : (decide (s < 60) && decide (s % 2 = 0)) = (decide (s ≤ 58) && decide (s % 2 = 0)) := by
    rw [← Bool.decide_and, ← Bool.decide_and]; exact decide_eq_decide.2 (by omega)
  rw [e1, e2, Bool.and_assoc, e3]
set_option maxRecDepth 100000 in
set_option maxHeartbeats 6400000 in
theorem rright_any (y m d h mi s : Int) (w : World) (hp : PartsOk y m d h mi s) :
    Calls Tryz.prog 109 #[.agg #[.int .i64 y, .int .i64 m, .int .i64 d, .int .i64 h, .int .i64 mi, .int .i64 s]] w fun e w' => e = .returned (.bool (rightB y m d h mi s)) ∧ Upd [] w w' := by
  obtain ⟨y0, y1, m0, m1, d0, d1, h0, h1, i0, i1, s0, s1⟩ := hp
  have HD := Lib.hid (fun w' => rdays_any y m w' y0 y1 m0 m1)
  have HRB := Lib.hid (rightB_ref (y := y) (m := m) (d := d) (h := h) (mi := mi) (s := s))
  have u1 : decide (0 ≤ h) = true := decide_eq_true h0
  have u2 : decide (0 ≤ mi) = true := decide_eq_true i0
  have u3 : decide (0 ≤ s) = true := decide_eq_true s0
  generalize rightB y m d h mi s = B at *
  generalize daysN y m = D at *
  go_enter Tryz.func109, Tryz.ntmps109
  go_upto_region 1 with fail
  have hB := Blk.new w [.int .i64 y, .int .i64 m, .int .i64 d, .int .i64 h, .int .i64 mi, .int .i64 s] 93
  have hU : Upd [] w (w.alloc (.cells #[.int .i64 y, .int .i64 m, .int .i64 d, .int .i64 h, .int .i64 mi, .int .i64 s] 93)) := (Upd.refl [] w).alloc _
  change Code.wp _ _ _ _ (w.alloc (.cells #[.int .i64 y, .int .i64 m, .int .i64 d, .int .i64 h, .int .i64 mi, .int .i64 s] 93))
  generalize w.alloc (.cells #[.int .i64 y, .int .i64 m, .int .i64 d, .int .i64 h, .int .i64 mi, .int .i64 s] 93) = w1 at *
  generalize hb : w.heap.size = b at *
  have HW := Lib.hid hb
  clear hb
  have c0 := hB.cell 0 rfl
  have c1 := hB.cell 1 rfl
  have c2 := hB.cell 2 rfl
  have c3 := hB.cell 3 rfl
  have c4 := hB.cell 4 rfl
  have c5 := hB.cell 5 rfl
  by_cases k1 : 1 ≤ d
  · by_cases k2 : d ≤ D
    · by_cases k3 : h ≤ 23
      · by_cases k4 : mi ≤ 59
        · by_cases k5 : s ≤ 58
          · have t1 : decide (1 ≤ d) = true := decide_eq_true k1
            have t2 : decide (d ≤ D) = true := decide_eq_true k2
            have t3 : decide (h ≤ 23) = true := decide_eq_true k3
            have t4 : decide (mi ≤ 59) = true := decide_eq_true k4
            have t5 : decide (s ≤ 58) = true := decide_eq_true k5
            go_quiet ((go_at_call 152; exact Calls.quiet_of_same ((HD.out _).mono fun _ _ ⟨h1, h2⟩ => ⟨h1, h2.symm⟩)))
            go_wp2
            go_returns
            exact ⟨by rw [HRB.out, t1, t2, t3, t4, t5]; show Ending.returned (.bool (s % 2 == 0)) = _; by_cases e : s % 2 = 0 <;> simp [e], hU.drewN _⟩
          · have t1 : decide (1 ≤ d) = true := decide_eq_true k1
            have t2 : decide (d ≤ D) = true := decide_eq_true k2
            have t3 : decide (h ≤ 23) = true := decide_eq_true k3
            have t4 : decide (mi ≤ 59) = true := decide_eq_true k4
            have t5 : decide (s ≤ 58) = false := decide_eq_false k5
            go_quiet ((go_at_call 152; exact Calls.quiet_of_same ((HD.out _).mono fun _ _ ⟨h1, h2⟩ => ⟨h1, h2.symm⟩)))
            go_wp2
            go_returns
            exact ⟨by rw [HRB.out, t1, t2, t3, t4]; show Ending.returned (.bool false) = _; rw [show (decide (s ≤ 58) && decide (s % 2 = 0)) = false from by rw [t5]; rfl]; rfl, hU.drewN _⟩
        · have t1 : decide (1 ≤ d) = true := decide_eq_true k1
          have t2 : decide (d ≤ D) = true := decide_eq_true k2
          have t3 : decide (h ≤ 23) = true := decide_eq_true k3
          have t4 : decide (mi ≤ 59) = false := decide_eq_false k4
          go_quiet ((go_at_call 152; exact Calls.quiet_of_same ((HD.out _).mono fun _ _ ⟨h1, h2⟩ => ⟨h1, h2.symm⟩)))
          go_wp2
          go_returns
          exact ⟨by rw [HRB.out, t1, t2, t3, t4]; rfl, hU.drewN _⟩
      · have t1 : decide (1 ≤ d) = true := decide_eq_true k1
        have t2 : decide (d ≤ D) = true := decide_eq_true k2
        have t3 : decide (h ≤ 23) = false := decide_eq_false k3
        go_quiet ((go_at_call 152; exact Calls.quiet_of_same ((HD.out _).mono fun _ _ ⟨h1, h2⟩ => ⟨h1, h2.symm⟩)))
        go_wp2
        go_returns
        exact ⟨by rw [HRB.out, t1, t2, t3]; rfl, hU.drewN _⟩
    · have t1 : decide (1 ≤ d) = true := decide_eq_true k1
      have t2 : decide (d ≤ D) = false := decide_eq_false k2
      go_quiet ((go_at_call 152; exact Calls.quiet_of_same ((HD.out _).mono fun _ _ ⟨h1, h2⟩ => ⟨h1, h2.symm⟩)))
      go_wp2
      go_returns
      exact ⟨by rw [HRB.out, t1, t2]; rfl, hU.drewN _⟩
  · have t1 : decide (1 ≤ d) = false := decide_eq_false k1
    go_quiet ((go_at_call 152; exact Calls.quiet_of_same ((HD.out _).mono fun _ _ ⟨h1, h2⟩ => ⟨h1, h2.symm⟩)))
    go_wp2
    go_returns
    exact ⟨by rw [HRB.out, t1]; rfl, hU.drewN _⟩
theorem refTime_any (t : Nat) (w : World) (ht : t < 4294967296) : Calls Tryz.prog 70 #[.int .u32 (t : Nat)] w fun e w' => e = .returned (.bool (timeB t)) ∧ Upd [] w w' := by
  have HS := Lib.hid (rsplit_any t w ht)
  have HR := Lib.hid (fun w' => rright_any _ _ _ _ _ _ w' (parts_ok t))
  have HT := Lib.hid (show timeB t = rightB (1980 + (t : Int) / 33554432 % 128) ((t : Int) / 2097152 % 16) ((t : Int) / 65536 % 32) ((t : Int) / 2048 % 32) ((t : Int) / 32 % 64) (2 * ((t : Int) % 32)) from rfl)
  unfold partsL at HS
  go_enter Tryz.func70, Tryz.ntmps70
  go_wp2_with fail
  refine HS.out.mono ?_
  rintro e w1 ⟨rfl, hU1⟩
  go_wp2_with fail
  refine (HR.out w1).mono ?_
  rintro e w2 ⟨rfl, hU2⟩
  go_wp2
  go_returns
  exact ⟨by rw [HT.out]; rfl, hU1.then hU2⟩
end Go.Proofs.YtigjingielnaoaaGreatDoor
namespace Go.Proofs.YtigjingielnaoaaGreatDoor
set_option linter.unusedVariables false
set_option linter.unusedSimpArgs false
set_option linter.unusedSectionVars false
open Go.RowKit

theorem mode_any (m : Int) (w : World) : Calls Tryz.prog 106 #[.int .i64 m] w fun e w' => e = .returned (.bool (decide (0 ≤ m) && decide (m ≤ 511))) ∧ w = w' := by
  by_cases h : 0 ≤ m
  · have t1 : decide (0 ≤ m) = true := decide_eq_true h
    go_enter Tryz.func106, Tryz.ntmps106
    go_wp2
    go_returns
    exact ⟨by rw [t1]; rfl, rfl⟩
  · have t1 : decide (0 ≤ m) = false := decide_eq_false h
    go_enter Tryz.func106, Tryz.ntmps106
    go_wp2
    go_returns
    exact ⟨rfl, rfl⟩
end Go.Proofs.YtigjingielnaoaaGreatDoor
namespace Go.Proofs.YtigjingielnaoaaGreatDoor
set_option linter.unusedVariables false
set_option linter.unusedSimpArgs false
set_option linter.unusedSectionVars false
open Go.RowKit
set_option linter.unusedVariables false

def permBase : List Nat := [114, 119, 120, 114, 119, 120, 114, 119, 120]
def permTo (m : Nat) : Nat → List Nat
  | 0 => permBase
  | i + 1 => if m / 2 ^ (8 - i) % 2 = 0 then (permTo m i).set i 45 else permTo m i
theorem permTo_len (m : Nat) : ∀ i, (permTo m i).length = 9
  | 0 => rfl
  | i + 1 => by
    unfold permTo
    split
    · rw [List.length_set]; exact permTo_len m i
    · exact permTo_len m i
theorem u8s_set' (l : List Nat) (i x : Nat) : (u8s l).set i (.int .u8 (x : Nat)) = u8s (l.set i x) := by simp [u8s]
/-- A block that a conversion from a constant has marked behind its end. -/
def BlkF (w : World) (b : Nat) (cs : List Value) (t : TypeId) (f : Nat) : Prop := w.heap[b]? = some (.cells cs.toArray t (f, f + 1))
theorem BlkF.cell {w : World} {b f : Nat} {cs : List Value} {t : TypeId} (h : BlkF w b cs t f) (i : Nat) {v : Value} (hi : cs[i]? = some v) : w.cell? ⟨b, i, none⟩ = some v := by
  unfold BlkF at h
  simp [World.cell?, h, hi]
theorem BlkF.frz {w : World} {b f : Nat} {cs : List Value} {t : TypeId} (h : BlkF w b cs t f) (i : Nat) (hi : i < f) : w.frozen? ⟨b, i, none⟩ = false := by
  unfold BlkF at h
  simp [World.frozen?, h]
  omega
theorem BlkF.set {w : World} {b f : Nat} {cs : List Value} {t : TypeId} (h : BlkF w b cs t f) (i : Nat) (v : Value) : BlkF (w.setCell ⟨b, i, none⟩ v) b (cs.set i v) t f := by
  unfold BlkF at h ⊢
  simp [World.setCell, Array.getElem?_modify, h]
theorem BlkF.new (w : World) (cs : List Value) (t : TypeId) (f : Nat) : BlkF (w.alloc (.cells cs.toArray t (f, f + 1))) w.heap.size cs t f := heap_alloc_new w _
theorem BlkF.conv {P : Program} {w : World} {b n c f : Nat} {l : List Nat} {src dst e : TypeId} (h : BlkF w b (u8s l) e f) (hl : l.length = n) (hs : P.underlying src = some (.slice e)) (he : P.underlying e = some (.int .u8)) (hd : P.underlying dst = some .string) :
    (convert src dst (.slice (some ⟨b, 0, none⟩) n c)).run P w = .ok (.string (strOf l)) w := by
  have hr := run_convert_bytes_arg w src e hs he b 0 n c (l.map fun x : Nat => (x : Int)) (by simpa using hl) (fun i hi => by
    have hil : i < l.length := by omega
    rw [Nat.zero_add]
    refine h.cell i ?_
    simp [u8s, hil]) dst hd
  rw [hr]
  congr 2
  simp only [strOfNums, strOf, List.map_map]
  congr 2
theorem and_i64 (a b : Nat) (ha : a < 9223372036854775808) (hb : b < 9223372036854775808) : bits .and .i64 (a : Int) (b : Int) = ((a &&& b : Nat) : Int) := by
  show IntKind.i64.wrap ((BitVec.ofInt 64 (a : Int) &&& BitVec.ofInt 64 (b : Int)).toNat : Int) = _
  rw [BitVec.toNat_and, ofInt_nat 64 a (by omega), ofInt_nat 64 b (by omega)]
  exact IntWalk.i64_in _ (by have := Nat.and_le_right (n := a) (m := b); omega)

set_option maxRecDepth 100000 in
set_option maxHeartbeats 1600000 in
theorem perm_any (m : Nat) (w : World) (hm : m < 512) : Calls Tryz.prog 71 #[.int .i64 (m : Nat)] w fun e w' => e = .returned (.string (strOf (permTo m 9))) ∧ Upd [] w w' := by
  have HM := Lib.hid (mode_any (m : Nat))
  have hmd : (decide (0 ≤ (m : Int)) && decide ((m : Int) ≤ 511)) = true := by simp; omega
  rw [hmd] at HM
  clear hmd
  have kc := fun (w : World) (C : Array Value) (n c : Nat) => Lib.run_convert_bytes_const (P := Tryz.prog) w 87 5 C n c Tryz.underlying87 Tryz.underlying5
  go_enter Tryz.func71, Tryz.ntmps71
  go_wp2_with fail
  refine (HM.out w).mono ?_
  rintro e w1 ⟨rfl, rfl⟩
  go_wp2
  have hB0 := BlkF.new w (u8s permBase) 5 9
  have hU0 : Upd [] w (w.alloc (.cells (u8s permBase).toArray 5 (9, 10))) := (Upd.refl [] w).alloc _
  change Code.wp _ _ _ _ (w.alloc (.cells (u8s permBase).toArray 5 (9, 10)))
  generalize w.alloc (.cells (u8s permBase).toArray 5 (9, 10)) = w0 at *
  obtain ⟨b0, hb0⟩ : ∃ b0, w.heap.size = b0 := ⟨_, rfl⟩
  rw [hb0] at hB0 ⊢
  have HB := Lib.hid (show w.heap.size ≤ b0 by omega)
  clear hb0 kc
  go_loopg [12] 9 (fun g s12 wr => ∃ i, i ≤ 9 ∧ g = 9 - i ∧ s12 = .int .i64 (i : Nat) ∧ BlkF wr b0 (u8s (permTo m i)) 5 9 ∧ Upd [] w wr)
  case atStart => exact ⟨0, by omega, rfl, rfl, hB0, hU0⟩
  case round =>
    obtain ⟨i, hi, rfl, rfl, hB, hU⟩ := hrel
    clear hB0 hU0
    by_cases hc9 : i < 9
    · have hcz : (i : Int) < 9 := by omega
      have hi0 : (0 : Int) ≤ (i : Int) := by omega
      have hz : (0 : Int) ≤ 8 - (i : Int) := by omega
      obtain ⟨p, hp⟩ : ∃ p, p = m / 2 ^ (8 - i) % 2 := ⟨_, rfl⟩
      have hq : m / 2 ^ (8 - i) < 512 := Nat.lt_of_le_of_lt (Nat.div_le_self _ _) hm
      have hand : bits .and .i64 ((m : Int) / 2 ^ (8 - i)) 1 = (p : Int) := by
        have h := and_i64 (m / 2 ^ (8 - i)) 1 (by omega) (by omega)
        rw [Nat.and_one_is_mod, ← hp] at h
        have e : ((m / 2 ^ (8 - i) : Nat) : Int) = (m : Int) / 2 ^ (8 - i) := by simp
        rw [e] at h
        exact h
      have hst : permTo m (i + 1) = if p = 0 then (permTo m i).set i 45 else permTo m i := by rw [hp]; rfl
      have HST := Lib.hid hst
      have hlen := permTo_len m i
      clear hst hp hq
      generalize permTo m i = L at *
      have c1 := hB.cell i (v := .int .u8 ((L[i]'(by omega) : Nat) : Int)) (by rw [u8s]; simp [hlen, hc9])
      have f1 := hB.frz i hc9
      generalize L[i]'(by omega) = old at *
      have HLN := Lib.hid hlen
      clear hlen
      by_cases hp0 : p = 0
      · have t1 : ((p : Int) == 0) = true := by simp; omega
        have t1' : (p == 0) = true := by simp [hp0]
        have HS2 := Lib.hid (show permTo m (i + 1) = L.set i 45 from by rw [HST.out, if_pos hp0])
        clear hp0
        go_wp2
        go_roundg (9 - (i + 1))
        · exact ⟨i + 1, by omega, rfl, by first | rfl | go_num, by rw [HS2.out, ← u8s_set']; exact hB.set i _, hU.setCell (.inr HB.out) _⟩
        · omega
      · have t1 : ((p : Int) == 0) = false := by simp; omega
        have t1' : (p == 0) = false := by simp [hp0]
        have HS2 := Lib.hid (show permTo m (i + 1) = L from by rw [HST.out, if_neg hp0])
        clear hp0
        go_wp2
        go_roundg (9 - (i + 1))
        · exact ⟨i + 1, by omega, rfl, by first | rfl | go_num, by rw [HS2.out]; exact hB, hU⟩
        · omega
    · have hcz : ¬ (i : Int) < 9 := by omega
      have h9 : i = 9 := by omega
      subst h9
      have hcv2 := hB.conv (P := Tryz.prog) (c := 9) (permTo_len m 9) Tryz.underlying87 Tryz.underlying5 Tryz.underlying9
      have hln := Lib.hid (permTo_len m 9)
      go_wp2
      go_returns
      exact ⟨rfl, hU⟩
end Go.Proofs.YtigjingielnaoaaGreatDoor
