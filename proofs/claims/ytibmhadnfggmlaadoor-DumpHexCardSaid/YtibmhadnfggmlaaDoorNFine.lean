/- Packages node and swingleref14: Fine: walks. -/
import Derived.Test.YtibmhadnfggmlaaDoorEqlP
namespace Go.Proofs.YtibmhadnfggmlaaDoor
set_option linter.unusedVariables false
set_option linter.unusedSimpArgs false
set_option linter.unusedSectionVars false
open Go.RowKit
set_option linter.unusedVariables false
set_option linter.unusedSimpArgs false

def printI (k m : Int) (t : Nat) (s : Int) (c : Nat) : Value := .agg #[.int .i64 k, .int .i64 m, .int .u32 (t : Nat), .int .i64 s, .int .u32 (c : Nat)]
/-- May a print be? -/
def fineB (k m : Int) (t : Nat) (s : Int) (c : Nat) : Bool :=
  if k = 0 then decide (m = 0 ∧ t = 0 ∧ s = 0 ∧ c = 0) else if k = 2 then decide (0 ≤ m ∧ m ≤ 511 ∧ t = 0 ∧ s = 0 ∧ c = 0) else if k = 1 then decide (0 ≤ m ∧ m ≤ 511 ∧ timeB t = true ∧ 0 ≤ s ∧ s ≤ 65000 ∧ (0 < s ∨ c = 0)) else false
set_option maxRecDepth 100000 in
set_option maxHeartbeats 6400000 in
theorem rfine_any (k m : Int) (t : Nat) (s : Int) (c : Nat) (w : World) (ht : t < 4294967296) (hc : c < 4294967296) : Calls Tryd.prog 22 #[printI k m t s c] w fun e w' => e = .returned (.bool (fineB k m t s c)) ∧ Upd [] w w' := by
  have HT := Lib.hid (fun w' => refTime_any t w' ht)
  unfold printI
  go_enter Tryd.func22, Tryd.ntmps22
  go_wp2_with (go_at_call 68; refine (HT.out _).mono ?_; rintro e w2 ⟨rfl, hU2⟩; have c3 := ((Blk.new w _ _).upd hU2 (by simp)).cell 3 rfl; have c4 := ((Blk.new w _ _).upd hU2 (by simp)).cell 4 rfl)
  all_goals go_returns
  all_goals (refine ⟨congrArg (fun z => Ending.returned (.bool z)) ?_, by first | exact (Upd.refl _ _).alloc _ | exact ((Upd.refl _ _).alloc _).then (by assumption)⟩)
  all_goals (clear HT; unfold fineB; (repeat' split) <;> first | rfl | omega | (exfalso; simp_all; done) | (exfalso; simp_all; omega) | (simp_all; done) | (simp_all; omega) | (symm; apply decide_eq_false; simp_all; done) | (symm; apply decide_eq_false; simp_all; omega) | (rw [Bool.eq_iff_iff]; simp_all; done) | (rw [Bool.eq_iff_iff]; simp_all; omega))
set_option maxRecDepth 100000 in
set_option maxHeartbeats 6400000 in
theorem nfine_any (k m : Int) (t : Nat) (s : Int) (c : Nat) (w : World) (ht : t < 4294967296) (hc : c < 4294967296) : Calls Tryd.prog 21 #[printI k m t s c] w fun e w' => e = .returned (.bool (fineB k m t s c)) ∧ Upd [] w w' := by
  have HT := Lib.hid (fun w' => dosRight_any t w' ht)
  have HM := Lib.hid (fun m w' => mode_any m w')
  unfold printI
  by_cases h0 : k = 0
  · subst h0
    have HE : fineB 0 m t s c = decide (m = 0 ∧ t = 0 ∧ s = 0 ∧ c = 0) := if_pos rfl
    by_cases h1 : m = 0
    · by_cases h2 : t = 0
      · by_cases h3 : s = 0
        · by_cases h4 : c = 0
          · subst h1 h2 h3 h4
            go_enter Tryd.func21, Tryd.ntmps21
            go_wp2
            go_returns
            exact ⟨rfl, (Upd.refl _ _).alloc _⟩
          · have HV := Lib.hid (show fineB 0 m t s c = false by rw [HE]; exact decide_eq_false (fun h => h4 h.2.2.2))
            have t4 : ((c : Int) == 0) = false := by simp; exact h4
            subst h1 h2 h3
            clear HE h4
            go_enter Tryd.func21, Tryd.ntmps21
            go_wp2
            go_returns
            exact ⟨by rw [HV.out]; rfl, (Upd.refl _ _).alloc _⟩
        · have HV := Lib.hid (show fineB 0 m t s c = false by rw [HE]; exact decide_eq_false (fun h => h3 h.2.2.1))
          have t4 : ((s : Int) == 0) = false := by simp; exact h3
          subst h1 h2
          clear HE h3
          go_enter Tryd.func21, Tryd.ntmps21
          go_wp2
          go_returns
          exact ⟨by rw [HV.out]; rfl, (Upd.refl _ _).alloc _⟩
      · have HV := Lib.hid (show fineB 0 m t s c = false by rw [HE]; exact decide_eq_false (fun h => h2 h.2.1))
        have t4 : ((t : Int) == 0) = false := by simp; exact h2
        subst h1
        clear HE h2
        go_enter Tryd.func21, Tryd.ntmps21
        go_wp2
        go_returns
        exact ⟨by rw [HV.out]; rfl, (Upd.refl _ _).alloc _⟩
    · have HV := Lib.hid (show fineB 0 m t s c = false by rw [HE]; exact decide_eq_false (fun h => h1 h.1))
      have t4 : ((m : Int) == 0) = false := by simp; exact h1
      clear HE h1
      go_enter Tryd.func21, Tryd.ntmps21
      go_wp2
      go_returns
      exact ⟨by rw [HV.out]; rfl, (Upd.refl _ _).alloc _⟩
  · go_enter Tryd.func21, Tryd.ntmps21
    go_wp2_with (first | (go_at_call 67; refine (HT.out _).mono ?_; rintro e w2 ⟨rfl, hU2⟩; have c3 := ((Blk.new w _ _).upd hU2 (by simp)).cell 3 rfl; have c4 := ((Blk.new w _ _).upd hU2 (by simp)).cell 4 rfl) | (go_at_call 66; refine (HM.out _ _).mono ?_; rintro e w2 ⟨rfl, rfl⟩))
    all_goals go_returns
    all_goals (refine ⟨congrArg (fun z => Ending.returned (.bool z)) ?_, by first | exact (Upd.refl _ _).alloc _ | exact ((Upd.refl _ _).alloc _).then (by assumption)⟩)
    all_goals (clear HT HM; unfold fineB; (repeat' split) <;> first | rfl | omega | (exfalso; simp_all; done) | (exfalso; simp_all; omega) | (simp_all; done) | (simp_all; omega) | (symm; apply decide_eq_false; simp_all; done) | (symm; apply decide_eq_false; simp_all; omega) | (rw [Bool.eq_iff_iff]; simp_all; done) | (rw [Bool.eq_iff_iff]; simp_all; omega))
end Go.Proofs.YtibmhadnfggmlaaDoor
