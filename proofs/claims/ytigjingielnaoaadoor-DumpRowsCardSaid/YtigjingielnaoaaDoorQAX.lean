/- Packages node and swingleref14: Fine: walks. -/
import Derived.Test.YtigjingielnaoaaDoorQAD
import Derived.Test.YtigjingielnaoaaDoorQAB
import Derived.Test.YtigjingielnaoaaDoorQAN
import Derived.Test.YtigjingielnaoaaDoorQAO
import Derived.Test.YtigjingielnaoaaDoorDTxu
namespace Go.Proofs.YtigjingielnaoaaDoor
set_option linter.unusedVariables false
set_option linter.unusedSimpArgs false
set_option linter.unusedSectionVars false
open Go.RowKit
set_option linter.unusedVariables false
set_option linter.unusedSimpArgs false

def printI (k m : Int) (t : Nat) (s : Int) (c : Nat) : Value := .agg #[.int .i64 k, .int .i64 m, .int .u32 (t : Nat), .int .i64 s, .int .u32 (c : Nat)]
/-- May a print be? -/
def fineB (k m : Int) (t : Nat) (s : Int) (c : Nat) : Bool :=
  if k = 0 then decide (m = 0 ∧ t = 0 ∧ s = 0 ∧ c = 0) else if k = 2 then decide (0 ≤ m ∧ m ≤ 511 ∧ t = 0 ∧ s = 0 ∧ c = 0) else if k = 1 then decide (0 ≤ m ∧ m ≤ 511 ∧ timeB t = true ∧ 0 ≤ s ∧ s ≤ 65000 ∧ (0 < s ∨ c = 0)) else false
end Go.Proofs.YtigjingielnaoaaDoor
namespace Go.Proofs.YtigjingielnaoaaDoor
set_option linter.unusedVariables false
set_option linter.unusedSimpArgs false
set_option linter.unusedSectionVars false
open Go.RowKit
set_option linter.unusedVariables false
set_option linter.unusedSimpArgs false

/-- The sign of a mode's bit. -/
def signP (m i : Nat) : Nat := if m / 2 ^ i % 2 = 0 then 45 else if i % 3 = 0 then 120 else if i % 3 = 1 then 119 else 114
def signsP (m : Nat) : Nat → List Nat
  | 0 => []
  | i + 1 => signP m i :: signsP m i
theorem signsP_len (m : Nat) : ∀ i, (signsP m i).length = i
  | 0 => rfl
  | i + 1 => by rw [signsP, List.length_cons, signsP_len m i]
theorem permTo_get (m : Nat) : ∀ (i j : Nat), i ≤ 9 → (h : j < 9) → (permTo m i)[j]'(by rw [permTo_len]; exact h) = if j < i ∧ m / 2 ^ (8 - j) % 2 = 0 then 45 else permBase[j]'h
  | 0, j, _, h => by rw [if_neg (by omega)]; rfl
  | i + 1, j, hi, h => by
    have ih := permTo_get m i j (by omega) h
    by_cases hq : m / 2 ^ (8 - i) % 2 = 0
    · have e : permTo m (i + 1) = (permTo m i).set i 45 := by show (if m / 2 ^ (8 - i) % 2 = 0 then _ else _) = _; rw [if_pos hq]
      simp only [e, List.getElem_set]
      by_cases hij : i = j
      · subst hij
        rw [if_pos rfl, if_pos ⟨by omega, hq⟩]
      · rw [if_neg hij, ih]
        by_cases hj : j < i
        · by_cases hz : m / 2 ^ (8 - j) % 2 = 0
          · rw [if_pos ⟨hj, hz⟩, if_pos ⟨by omega, hz⟩]
          · rw [if_neg (by omega), if_neg (by omega)]
        · rw [if_neg (by omega), if_neg (by omega)]
    · have e : permTo m (i + 1) = permTo m i := by show (if m / 2 ^ (8 - i) % 2 = 0 then _ else _) = _; rw [if_neg hq]
      simp only [e, ih]
      by_cases hij : i = j
      · subst hij
        rw [if_neg (by omega), if_neg (by omega)]
      · by_cases hj : j < i
        · by_cases hz : m / 2 ^ (8 - j) % 2 = 0
          · rw [if_pos ⟨hj, hz⟩, if_pos ⟨by omega, hz⟩]
          · rw [if_neg (by omega), if_neg (by omega)]
        · rw [if_neg (by omega), if_neg (by omega)]
theorem signs_perm (m : Nat) : ∀ i, i ≤ 9 → signsP m i = (permTo m 9).drop (9 - i)
  | 0, _ => by rw [List.drop_of_length_le (by rw [permTo_len]; omega)]; rfl
  | i + 1, h => by
    rw [List.drop_eq_getElem_cons (by rw [permTo_len]; omega), permTo_get m 9 (9 - (i + 1)) (by omega) (by omega), signsP, signs_perm m i (by omega), show 9 - (i + 1) + 1 = 9 - i by omega]
    congr 1
    unfold signP
    rw [show 8 - (9 - (i + 1)) = i by omega]
    by_cases hz : m / 2 ^ i % 2 = 0
    · rw [if_pos hz, if_pos ⟨by omega, hz⟩]
    · have hz2 : ¬ (9 - (i + 1) < 9 ∧ m / 2 ^ i % 2 = 0) := fun h => hz h.2
      rw [if_neg hz, if_neg hz2]
      clear hz hz2
      rcases (by omega : i = 0 ∨ i = 1 ∨ i = 2 ∨ i = 3 ∨ i = 4 ∨ i = 5 ∨ i = 6 ∨ i = 7 ∨ i = 8) with rfl | rfl | rfl | rfl | rfl | rfl | rfl | rfl | rfl <;> rfl
set_option maxRecDepth 100000 in
set_option maxHeartbeats 3200000 in
theorem rperm_any (n : Nat) (w : World) (hn : n < 512) : Calls Tryd.prog 22 #[.int .i64 (n : Nat)] w fun e w' => e = .returned (.string (strOf (permTo n 9))) ∧ Upd [] w w' := by
  have HV : Hid (permTo n 9 = signsP n 9) := Lib.hid (by rw [signs_perm n 9 (by omega)]; rfl)
  rw [HV.out]
  go_enter Tryd.func22, Tryd.ntmps22
  go_wp2
  go_loopg [0, 3, 4] 9 (fun g s0 s3 s4 wr => ∃ i m, i ≤ 9 ∧ g = 9 - i ∧ s4 = .int .i64 (i : Nat) ∧ s0 = .int .i64 (m : Nat) ∧ Hid (m = n / 2 ^ i) ∧ m < 512 ∧ s3 = .string (strOf (signsP n i)) ∧ Hid (Upd [] w wr))
  case atStart => exact ⟨0, n, by omega, rfl, rfl, rfl, Lib.hid (by simp), hn, rfl, Lib.hid (Upd.refl _ _)⟩
  case round =>
    obtain ⟨i, m, hi, rfl, rfl, rfl, HM, hm, rfl, HU⟩ := hrel
    by_cases hc9 : i < 9
    · have hcz : (i : Int) < 9 := by omega
      have hadd := fun w => addl_row [signP n i] (signsP n i) (by rw [signsP_len]; simp; omega) w
      have HS : Hid ([signP n i] ++ signsP n i = signsP n (i + 1)) := Lib.hid rfl
      rw [HS.out] at hadd
      have HM2 : Hid (m / 2 = n / 2 ^ (i + 1)) := Lib.hid (by rw [HM.out, Nat.div_div_eq_div_mul, Nat.pow_succ])
      have hm2 : m / 2 < 512 := by omega
      by_cases h1 : m % 2 = 1
      · have t1 : ((m : Int) % 2 == 1) = true := by simp; omega
        have hsg : signP n i = if i % 3 = 0 then 120 else if i % 3 = 1 then 119 else 114 := by
          unfold signP
          rw [← HM.out, if_neg (by omega)]
        have hB := Blk.new wr [.string ({ data := #[120] } : ByteArray), .string ({ data := #[119] } : ByteArray), .string ({ data := #[114] } : ByteArray)] 9
        have h3 : i % 3 < 3 := by omega
        have ht3 : ((i : Int) % 3).toNat = i % 3 := by omega
        rcases (by omega : i % 3 = 0 ∨ i % 3 = 1 ∨ i % 3 = 2) with e | e | e
        all_goals (
          have ez : (i : Int) % 3 = ((i % 3 : Nat) : Int) := by omega
          rw [e] at ez hsg
          simp at hsg)
        · have c0 := hB.cell 0 rfl
          clear hB
          rw [hsg] at hadd
          have hadd2 : ∀ w : World, (Op.stringOp .add ({ data := #[120] } : ByteArray) (strOf (signsP n i))).run Tryd.prog w = .ok (.string (strOf (signsP n (i + 1)))) w := hadd
          go_wp2
          go_roundg (9 - (i + 1))
          · exact ⟨i + 1, m / 2, by omega, rfl, by first | rfl | go_num, by first | rfl | go_num, HM2, hm2, rfl, Lib.hid (HU.out.alloc _)⟩
          · omega
        · have c0 := hB.cell 1 rfl
          clear hB
          rw [hsg] at hadd
          have hadd2 : ∀ w : World, (Op.stringOp .add ({ data := #[119] } : ByteArray) (strOf (signsP n i))).run Tryd.prog w = .ok (.string (strOf (signsP n (i + 1)))) w := hadd
          go_wp2
          go_roundg (9 - (i + 1))
          · exact ⟨i + 1, m / 2, by omega, rfl, by first | rfl | go_num, by first | rfl | go_num, HM2, hm2, rfl, Lib.hid (HU.out.alloc _)⟩
          · omega
        · have c0 := hB.cell 2 rfl
          clear hB
          rw [hsg] at hadd
          have hadd2 : ∀ w : World, (Op.stringOp .add ({ data := #[114] } : ByteArray) (strOf (signsP n i))).run Tryd.prog w = .ok (.string (strOf (signsP n (i + 1)))) w := hadd
          go_wp2
          go_roundg (9 - (i + 1))
          · exact ⟨i + 1, m / 2, by omega, rfl, by first | rfl | go_num, by first | rfl | go_num, HM2, hm2, rfl, Lib.hid (HU.out.alloc _)⟩
          · omega
      · have t1 : ((m : Int) % 2 == 1) = false := by simp; omega
        have hsg : signP n i = 45 := by
          unfold signP
          rw [← HM.out, if_pos (by omega)]
        rw [hsg] at hadd
        have hadd2 : ∀ w : World, (Op.stringOp .add ({ data := #[45] } : ByteArray) (strOf (signsP n i))).run Tryd.prog w = .ok (.string (strOf (signsP n (i + 1)))) w := hadd
        clear hadd hsg HS h1
        go_wp2
        go_roundg (9 - (i + 1))
        · exact ⟨i + 1, m / 2, by omega, rfl, by first | rfl | go_num, by first | rfl | go_num, HM2, hm2, rfl, HU⟩
        · omega
    · have hcz : ¬ (i : Int) < 9 := by omega
      have h9 : i = 9 := by omega
      subst h9
      go_wp2
      go_ret
      exact ⟨rfl, HU.out⟩
end Go.Proofs.YtigjingielnaoaaDoor
namespace Go.Proofs.YtigjingielnaoaaDoor
set_option linter.unusedVariables false
set_option linter.unusedSimpArgs false
set_option linter.unusedSectionVars false
open Go.RowKit
set_option linter.unusedVariables false
set_option linter.unusedSimpArgs false

/-- The words of a file's print. -/
def fileW (m t s c : Nat) : List (List Nat) := [[102, 105, 108, 101], permTo m 9, dosTextP t, decL s, hexP c 8]
/-- The text of a print. -/
def textP (k m : Int) (t : Nat) (s : Int) (c : Nat) : List Nat :=
  if fineB k m t s c = false then [] else if k = 0 then [110, 111, 110, 101] else if k = 2 then [100, 105, 114, 32] ++ permTo m.toNat 9 else joinC 32 (fileW m.toNat t s.toNat c)
theorem textsAt_new (w : World) (ps : List (List Nat)) (T : TypeId) : TextsAt (w.alloc (.cells (ps.map fun p => Value.string (strOf p)).toArray T)) (.slice (some ⟨w.heap.size, 0, none⟩) ps.length ps.length) ps := by
  have hB := Blk.new w (ps.map fun p => Value.string (strOf p)) T
  exact ⟨_, _, rfl, Nat.le_refl _, fun i hi => ⟨_, 0, rfl, by rw [Nat.zero_add]; exact hB.cell i (by rw [List.getElem?_map, List.getElem?_eq_getElem hi]; rfl)⟩⟩
theorem hexP_lt (n : Nat) : ∀ x ∈ hexP n 8, x < 256 := fun x hx => by have := hexP_dig 8 n x hx; omega
theorem clockP_len (y mo d h mi s : Nat) : (clockP y mo d h mi s).length = 19 := by
  unfold clockP
  simp only [List.length_append, digP_len, List.length_cons, List.length_nil]
theorem dosTextP_len (t : Nat) : (dosTextP t).length ≤ 19 := by
  unfold dosTextP
  split
  · rw [clockP_len]; omega
  · simp
end Go.Proofs.YtigjingielnaoaaDoor
