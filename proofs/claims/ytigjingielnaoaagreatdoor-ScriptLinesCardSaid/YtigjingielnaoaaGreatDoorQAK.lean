/- Package script: a number's decimal digits: walk. -/
import Derived.Test.YtigjingielnaoaaGreatDoorQAJ
import Derived.Lib.Bytealg
import Derived.Test.YtigjingielnaoaaGreatDoorQAA
import Derived.Laws.Strings3
import Derived.Deep.OwnRows
import Derived.Deep.LoopGhost
import Derived.WalkKit
import Derived.Handy
import Derived.Outline
import Derived.BigQuiet
import Derived.Deep.CutBlock
import Derived.Deep.DeepCutAuto
import Derived.Deep.DeepFit
import Derived.Deep.Light
import Derived.Deep.QuietTactic
import Derived.Deep.RegionHeld3
import Derived.Deep.RegionLaw
import Derived.IntWalk
import Derived.Laws.BitsAllLaws
import Derived.Lib.MinMax
import Derived.StillTailTactics
import Derived.WalkSpells
import Derived.Lib.Hide
import Derived.Test.YtigjingielnaoaaGreatDoorQAH
namespace Go.Proofs.YtigjingielnaoaaGreatDoor
set_option linter.unusedVariables false
set_option linter.unusedSimpArgs false
set_option linter.unusedSectionVars false
open Go.RowKit
set_option linter.unusedVariables false
set_option linter.unusedSimpArgs false

set_option maxRecDepth 100000 in
set_option maxHeartbeats 3200000 in
theorem sdecN_any (n : Nat) (w : World) (hn : n < 1000000) : Calls Tryz.prog 35 #[.int .i64 (n : Nat)] w fun e w' => e = .returned (.string (strOf (decL n))) ∧ Upd [] w w' := by
  have hneg : ¬ (n : Int) < 0 := by omega
  go_enter Tryz.func35, Tryz.ntmps35
  go_wp2
  go_loopg [0, 3] (0 + n) (fun gg s0 s3 wr => ∃ (m : Nat) (L : List Nat), gg = 0 + m ∧ s0 = .int .i64 (m : Nat) ∧ s3 = .string (strOf L) ∧ Hid (decL n = decL m ++ L) ∧ m < 1000000 ∧ Hid (L.length ≤ 7) ∧ Hid (Upd [] w wr))
  case atStart => exact ⟨n, [], rfl, rfl, rfl, Lib.hid (by simp), hn, Lib.hid (by simp), Lib.hid (Upd.refl _ _)⟩
  case round =>
    obtain ⟨m, L, rfl, rfl, rfl, HM, hm, HL, HU⟩ := hrel
    have HA := Lib.hid (fun d w => add1_row d L (by have := HL.out; omega) w)
    by_cases hc : 9 < m
    · have hcz : (9 : Int) < (m : Int) := by omega
      have hcv := conv1_row m wr
      have hadd := fun w => HA.out (48 + m % 10) w
      have HL2 : Hid (decL n = decL (m / 10) ++ ((48 + m % 10) :: L)) := Lib.hid (by rw [HM.out, decL_big m (by omega), List.append_assoc]; rfl)
      have HL7 : Hid (((48 + m % 10) :: L).length ≤ 7) := Lib.hid (by
        have h1 := HL2.out
        have h2 := decL_len 6 n (by omega)
        have h3 : 0 < (decL (m / 10)).length := by
          by_cases h : m / 10 < 10
          · rw [decL_small _ h]; simp
          · rw [decL_big _ h]; simp
        rw [h1, List.length_append] at h2
        omega)
      generalize ((48 + m % 10) :: L) = L2 at *
      go_wp2
      go_roundg (0 + m / 10)
      · exact ⟨m / 10, L2, rfl, by first | rfl | go_num, rfl, HL2, by omega, HL7, Lib.hid (HU.out.alloc _)⟩
      · omega
    · have hcz : ¬ (9 : Int) < (m : Int) := by omega
      have hcv := conv1_small m wr
      have hadd := fun w => HA.out (48 + m) w
      have HL2 : Hid (decL n = (48 + m) :: L) := Lib.hid (by rw [HM.out, decL_small m (by omega)]; rfl)
      generalize ((48 + m) :: L) = L2 at *
      go_wp2
      go_ret
      exact ⟨by rw [HL2.out]; rfl, HU.out.alloc _⟩
/-- The decimal digits of a number, with a sign. -/
def decZ (n : Int) : List Nat := if n < 0 then 45 :: decL (-n).toNat else decL n.toNat
set_option maxRecDepth 100000 in
set_option maxHeartbeats 3200000 in
theorem sdec_any (n : Int) (w : World) (h1 : -1000000 < n) (h2 : n < 1000000) : Calls Tryz.prog 35 #[.int .i64 n] w fun e w' => e = .returned (.string (strOf (decZ n))) ∧ Upd [] w w' := by
  by_cases hn : n < 0
  · obtain ⟨m, rfl⟩ : ∃ m : Nat, n = -(m : Int) := ⟨(-n).toNat, by omega⟩
    have HV : Hid (decZ (-(m : Int)) = 45 :: decL m) := Lib.hid (by unfold decZ; rw [if_pos hn]; congr 2; omega)
    have HD := Lib.hid (fun w => sdecN_any m w (by omega))
    have hl := decL_len 6 m (by omega)
    have HA := add1_row 45 (decL m) (by omega)
    have y : strOf [45] = ({ data := #[45] } : ByteArray) := rfl
    rw [y] at HA
    have hw1 : IntKind.i64.wrap (-(-(m : Int))) = (m : Int) := by rw [Int.neg_neg, IntWalk.i64_in _ (by omega)]
    have hw2 : IntKind.i64.wrap (m : Int) = (m : Int) := by rw [IntWalk.i64_in _ (by omega)]
    have hm0 : 0 < m := by omega
    clear y hl
    rw [HV.out]
    generalize 45 :: decL m = L2 at *
    generalize decL m = L1 at *
    go_enter Tryz.func35, Tryz.ntmps35
    go_wp2_with fail
    refine (HD.out _).mono ?_
    rintro e w1 ⟨rfl, hu1⟩
    go_wp2
    go_ret
    exact ⟨rfl, hu1⟩
  · obtain ⟨m, rfl⟩ : ∃ m : Nat, n = m := ⟨n.toNat, by omega⟩
    have h := sdecN_any m w (by omega)
    unfold decZ
    rw [if_neg hn, Int.toNat_natCast]
    exact h
end Go.Proofs.YtigjingielnaoaaGreatDoor
namespace Go.Proofs.YtigjingielnaoaaGreatDoor
set_option linter.unusedVariables false
set_option linter.unusedSimpArgs false
set_option linter.unusedSectionVars false
open Go.RowKit
set_option linter.unusedVariables false
set_option linter.unusedSimpArgs false

def hexes : ByteArray := { data := #[48, 49, 50, 51, 52, 53, 54, 55, 56, 57, 97, 98, 99, 100, 101, 102] }
def hexd (k : Nat) : Nat := if k < 10 then 48 + k else 87 + k
/-- So many digits to the base 16. -/
def hexP (n : Nat) : Nat → List Nat
  | 0 => []
  | k + 1 => hexP (n / 16) k ++ [hexd (n % 16)]
theorem hexP_len : ∀ (k n : Nat), (hexP n k).length = k
  | 0, _ => rfl
  | k + 1, n => by rw [hexP, List.length_append, hexP_len k]; rfl
theorem hexP_cons : ∀ (i n : Nat), hexP n (i + 1) = hexd (n / 16 ^ i % 16) :: hexP n i
  | 0, n => by simp [hexP]
  | i + 1, n => by
    rw [hexP, hexP_cons i (n / 16), hexP, Nat.div_div_eq_div_mul, Nat.pow_succ']
    rfl
theorem hexes_get (k : Nat) (h : k < 16) : (hexes[k]'(by exact h)).toNat = hexd k := by
  have : ∀ k : Fin 16, (hexes[k.val]'(by exact k.isLt)).toNat = hexd k.val := by decide
  exact this ⟨k, h⟩
theorem hexes_cut (k : Nat) (h : k < 16) : hexes.extract k (k + 1) = strOf [hexd k] := by
  have : ∀ k : Fin 16, (hexes.extract k.val (k.val + 1)).data = (strOf [hexd k.val]).data := by decide
  exact ByteArray.ext (this ⟨k, h⟩)
theorem addl_row (L M : List Nat) (hL : L.length + M.length ≤ 1000) (w : World) : (Op.stringOp .add (strOf L) (strOf M)).run Tryz.prog w = .ok (.string (strOf (L ++ M))) w := by
  rw [run_string_add_sum _ _ _ (by rw [size_strOf, size_strOf]; omega), ← strOf_cat]
set_option maxRecDepth 100000 in
set_option maxHeartbeats 3200000 in
theorem rhex_any (n : Nat) (w : World) (hn : n < 4294967296) : Calls Tryz.prog 52 #[.int .u32 (n : Nat)] w fun e w' => e = .returned (.string (strOf (hexP n 8))) ∧ Upd [] w w' := by
  go_enter Tryz.func52, Tryz.ntmps52
  go_wp2
  go_loopg [0, 3, 4] 8 (fun g s0 s3 s4 wr => ∃ i m, i ≤ 8 ∧ g = 8 - i ∧ s4 = .int .i64 (i : Nat) ∧ s0 = .int .u32 (m : Nat) ∧ Hid (m = n / 16 ^ i) ∧ m < 4294967296 ∧ s3 = .string (strOf (hexP n i)) ∧ wr = w)
  case atStart => exact ⟨0, n, by omega, rfl, rfl, rfl, Lib.hid (by simp), hn, rfl, rfl⟩
  case round =>
    obtain ⟨i, m, hi, rfl, rfl, rfl, HM, hm, rfl, rfl⟩ := hrel
    by_cases hc9 : i < 8
    · have hcz : (i : Int) < 8 := by omega
      have HS : Hid (hexd (m % 16) :: hexP n i = hexP n (i + 1)) := Lib.hid (by rw [hexP_cons, HM.out])
      have hadd := fun w => addl_row [hexd (m % 16)] (hexP n i) (by rw [hexP_len]; simp; omega) w
      rw [List.singleton_append, HS.out] at hadd
      have hcut := hexes_cut (m % 16) (by omega)
      have HM2 : Hid (m / 16 = n / 16 ^ (i + 1)) := Lib.hid (by rw [HM.out, Nat.div_div_eq_div_mul, Nat.pow_succ])
      have hk : m % 16 < 16 := by omega
      unfold hexes at hcut
      have hsz : ({ data := #[48, 49, 50, 51, 52, 53, 54, 55, 56, 57, 97, 98, 99, 100, 101, 102] } : ByteArray).size = 16 := rfl
      generalize ({ data := #[48, 49, 50, 51, 52, 53, 54, 55, 56, 57, 97, 98, 99, 100, 101, 102] } : ByteArray) = HX at *
      go_wp2
      go_roundg (8 - (i + 1))
      · exact ⟨i + 1, m / 16, by omega, rfl, by first | rfl | go_num, by first | rfl | go_num, HM2, by omega, rfl, rfl⟩
      · omega
    · have hcz : ¬ (i : Int) < 8 := by omega
      have h9 : i = 8 := by omega
      subst h9
      go_wp2
      go_ret
      exact ⟨rfl, Upd.refl _ _⟩
end Go.Proofs.YtigjingielnaoaaGreatDoor
namespace Go.Proofs.YtigjingielnaoaaGreatDoor
set_option linter.unusedVariables false
set_option linter.unusedSimpArgs false
set_option linter.unusedSectionVars false
open Go.RowKit

/-- How many bytes stand ahead of the first c. -/
def firstC (c : Nat) (l : List Nat) : Nat := (l.takeWhile (fun x => decide (x ≠ c))).length
theorem firstC_le (c : Nat) (l : List Nat) : firstC c l ≤ l.length := (List.takeWhile_prefix _).length_le
theorem firstC_cons (c x : Nat) (r : List Nat) : firstC c (x :: r) = if x = c then 0 else firstC c r + 1 := by
  unfold firstC
  rw [List.takeWhile_cons]
  by_cases h : x = c <;> simp [h]
/-- What stands between the c's. -/
def splitC (c : Nat) : List Nat → List (List Nat)
  | [] => [[]]
  | x :: r => if x = c then [] :: splitC c r else (x :: (splitC c r).headD []) :: (splitC c r).tail
theorem splitC_first (c : Nat) : ∀ (l : List Nat), firstC c l < l.length → splitC c l = l.take (firstC c l) :: splitC c (l.drop (firstC c l + 1))
  | [], h => by simp at h
  | x :: r, h => by
    rw [firstC_cons] at h ⊢
    by_cases e : x = c
    · subst e; simp [splitC]
    · rw [if_neg e] at h ⊢
      have ih := splitC_first c r (by rw [List.length_cons] at h; omega)
      have e2 : splitC c (x :: r) = (x :: (splitC c r).headD []) :: (splitC c r).tail := by rw [splitC, if_neg e]
      rw [e2, ih]
      simp
theorem splitC_last (c : Nat) : ∀ (l : List Nat), ¬ firstC c l < l.length → splitC c l = [l]
  | [], _ => rfl
  | x :: r, h => by
    rw [firstC_cons] at h
    by_cases e : x = c
    · rw [if_pos e] at h; simp at h
    · rw [if_neg e] at h
      have ih := splitC_last c r (by rw [List.length_cons] at h; omega)
      have e2 : splitC c (x :: r) = (x :: (splitC c r).headD []) :: (splitC c r).tail := by rw [splitC, if_neg e]
      rw [e2, ih]
      simp
theorem splitC_ne (c : Nat) (l : List Nat) : splitC c l ≠ [] := by
  cases l with
  | nil => simp [splitC]
  | cons x r => unfold splitC; split <;> simp
theorem splitC_len (c : Nat) : ∀ l : List Nat, (splitC c l).length = l.countP (fun x => decide (x = c)) + 1
  | [] => rfl
  | x :: r => by
    have ih := splitC_len c r
    by_cases e : x = c
    · rw [splitC, if_pos e, List.length_cons, ih, List.countP_cons_of_pos (by simpa using e)]
    · rw [splitC, if_neg e, List.length_cons, List.length_tail, ih, List.countP_cons_of_neg (by simpa using e)]; omega
theorem splitC_mem (c : Nat) : ∀ (l : List Nat), ∀ p ∈ splitC c l, (∀ x ∈ p, x ∈ l) ∧ p.length ≤ l.length
  | [], p, h => by simp [splitC] at h; subst h; simp
  | x :: r, p, h => by
    rw [splitC] at h
    by_cases e : x = c
    · rw [if_pos e] at h
      rcases List.mem_cons.1 h with rfl | h
      · simp
      · have := splitC_mem c r p h
        exact ⟨fun y hy => List.mem_cons_of_mem _ (this.1 y hy), by rw [List.length_cons]; omega⟩
    · rw [if_neg e] at h
      rcases List.mem_cons.1 h with rfl | h
      · have hm : (splitC c r).headD [] ∈ splitC c r := by
          cases hs : splitC c r with
          | nil => exact absurd hs (splitC_ne c r)
          | cons a b => simp
        have := splitC_mem c r _ hm
        refine ⟨fun y hy => ?_, by rw [List.length_cons, List.length_cons]; omega⟩
        rcases List.mem_cons.1 hy with rfl | hy
        · simp
        · exact List.mem_cons_of_mem _ (this.1 y hy)
      · have := splitC_mem c r p (List.mem_of_mem_tail h)
        exact ⟨fun y hy => List.mem_cons_of_mem _ (this.1 y hy), by rw [List.length_cons]; omega⟩
/-- Parts with a sign between. -/
def joinC (c : Nat) : List (List Nat) → List Nat
  | [] => []
  | [p] => p
  | p :: q :: r => p ++ c :: joinC c (q :: r)
theorem splitC_noc (c : Nat) (p : List Nat) (h : ∀ x ∈ p, x ≠ c) : splitC c p = [p] := by
  refine splitC_last c p ?_
  have e : ∀ q : List Nat, (∀ x ∈ q, x ≠ c) → firstC c q = q.length := by
    intro q
    induction q with
    | nil => intro _; rfl
    | cons x r ih =>
      intro hq
      rw [firstC_cons, if_neg (hq x (by simp)), ih (fun y hy => hq y (List.mem_cons_of_mem _ hy)), List.length_cons]
  rw [e p h]
  omega
theorem splitC_cat (c : Nat) : ∀ (p l : List Nat), (∀ x ∈ p, x ≠ c) → splitC c (p ++ c :: l) = p :: splitC c l
  | [], l, _ => by simp [splitC]
  | x :: p, l, h => by
    have ih := splitC_cat c p l (fun y hy => h y (List.mem_cons_of_mem _ hy))
    rw [List.cons_append, splitC, if_neg (h x (by simp)), ih]
    rfl
theorem splitC_join (c : Nat) : ∀ (ps : List (List Nat)), ps ≠ [] → (∀ p ∈ ps, ∀ x ∈ p, x ≠ c) → splitC c (joinC c ps) = ps
  | [], h, _ => absurd rfl h
  | [p], _, h => splitC_noc c p (h p (by simp))
  | p :: q :: r, _, h => by
    rw [joinC, splitC_cat c p _ (h p (by simp)), splitC_join c (q :: r) (by simp) (fun y hy => h y (List.mem_cons_of_mem _ hy))]
theorem joinC_snoc (c : Nat) : ∀ (ps : List (List Nat)) (p : List Nat), ps ≠ [] → joinC c (ps ++ [p]) = joinC c ps ++ c :: p
  | [], _, h => absurd rfl h
  | [q], p, _ => rfl
  | q :: r :: t, p, _ => by
    rw [List.cons_append, List.cons_append, joinC, ← List.cons_append, joinC_snoc c (r :: t) p (by simp), joinC, List.append_assoc]; rfl
theorem joinC_lt (c : Nat) (hc : c < 256) : ∀ (ps : List (List Nat)), (∀ p ∈ ps, ∀ x ∈ p, x < 256) → ∀ x ∈ joinC c ps, x < 256
  | [], _, x, h => by cases h
  | [p], h, x, hx => h p (by simp) x hx
  | p :: q :: r, h, x, hx => by
    rw [joinC] at hx
    rcases List.mem_append.1 hx with hx | hx
    · exact h p (by simp) x hx
    · rcases List.mem_cons.1 hx with rfl | hx
      · exact hc
      · exact joinC_lt c hc (q :: r) (fun y hy => h y (List.mem_cons_of_mem _ hy)) x hx
theorem indexByte_c (c : UInt8) (L : List UInt8) : Lib.indexByte L c = if firstC c.toNat (L.map UInt8.toNat) < L.length then (firstC c.toNat (L.map UInt8.toNat) : Int) else -1 := by
  induction L with
  | nil => rfl
  | cons b l ih =>
    have hb : (b == c) = decide (b.toNat = c.toNat) := by
      rw [Bool.eq_iff_iff]; simp [← UInt8.toNat_inj]
    rw [List.map_cons, firstC_cons, Lib.indexByte, hb, ih]
    by_cases e : b.toNat = c.toNat
    · simp [e]
    · rw [if_neg (by simp [e]), if_neg e]
      by_cases h : firstC c.toNat (l.map UInt8.toNat) < l.length
      · have h1 : (((firstC c.toNat (l.map UInt8.toNat) : Nat) : Int) == -1) = false := by rw [beq_eq_false_iff_ne]; omega
        rw [if_pos h, h1, if_pos (show firstC c.toNat (l.map UInt8.toNat) + 1 < (b :: l).length by rw [List.length_cons]; omega)]; simp
      · rw [if_neg h, if_neg (show ¬ firstC c.toNat (l.map UInt8.toNat) + 1 < (b :: l).length by rw [List.length_cons]; omega)]; rfl
theorem countByte_c (c : UInt8) (s : ByteArray) : Lib.countByte s.data.toList c = (bytesOf s).countP (fun x => decide (x = c.toNat)) := by
  unfold Lib.countByte bytesOf
  rw [List.count, List.countP_map]
  refine List.countP_congr fun b _ => ?_
  simp [← UInt8.toNat_inj]
end Go.Proofs.YtigjingielnaoaaGreatDoor
namespace Go.Proofs.YtigjingielnaoaaGreatDoor
set_option linter.unusedVariables false
set_option linter.unusedSimpArgs false
set_option linter.unusedSectionVars false
open Go.RowKit
set_option linter.unusedVariables false

set_option maxRecDepth 100000 in
theorem sliteByteC_any (s : ByteArray) (c : UInt8) (w : World) : Calls Tryz.prog 186 #[.string s, .int .u8 (c.toNat : Nat)] w fun e w' => e = .returned (.int .i64 (Lib.indexByte s.data.toList c)) ∧ w = w' := by
  have HC : Hid (((c.toNat : Nat) : Int).toNat.toUInt8 = c) := Lib.hid (by simp)
  go_enter Tryz.func186, Tryz.ntmps186
  go_wp2
  rw [run_callFunc_extern Tryz.func220 (by kernel_rfl) (by kernel_rfl) (by kernel_rfl) (e := Extern.BytealgIndexByte.indexByte) (by kernel_rfl), Lib.run_indexByteString, HC.out]
  simp only [Result.andThen]
  rw [Oper.upon_value]
  go_wp2
  go_ret
  exact ⟨rfl, rfl⟩
set_option maxRecDepth 100000 in
theorem sliteC_any (s : ByteArray) (c : UInt8) (w : World) : Calls Tryz.prog 142 #[.string s, .string { data := #[c] }] w fun e w' => e = .returned (.int .i64 (Lib.indexByte s.data.toList c)) ∧ w = w' := by
  have HB := Lib.hid (fun w => sliteByteC_any s c w)
  cases hq : ([c] == s.toList) with
  | true =>
    have e1 : s.toList = [c] := (beq_iff_eq.1 hq).symm
    have HZ := Lib.hid (show Lib.indexByte s.data.toList c = 0 from by rw [ByteArray.toList_eq] at e1; rw [e1]; simp [Lib.indexByte])
    clear e1
    go_enter Tryz.func142, Tryz.ntmps142
    go_wp2
    go_ret
    exact ⟨by rw [HZ.out]; rfl, rfl⟩
  | false =>
    go_enter Tryz.func142, Tryz.ntmps142
    go_wp2_with fail
    refine (HB.out _).mono ?_
    rintro e w' ⟨rfl, rfl⟩
    go_wp2
    go_ret
    exact ⟨rfl, rfl⟩
theorem indexC_any (s : ByteArray) (c : UInt8) (w : World) : Calls Tryz.prog 97 #[.string s, .string { data := #[c] }] w fun e w' => e = .returned (.int .i64 (Lib.indexByte s.data.toList c)) ∧ w = w' := by
  have HB := Lib.hid (fun w => sliteC_any s c w)
  go_enter Tryz.func97, Tryz.ntmps97
  go_wp2_with fail
  refine (HB.out _).mono ?_
  rintro e w' ⟨rfl, rfl⟩
  go_wp2
  go_ret
  exact ⟨rfl, rfl⟩
set_option maxRecDepth 100000 in
theorem countC_any (s : ByteArray) (c : UInt8) (w : World) : Calls Tryz.prog 96 #[.string s, .string { data := #[c] }] w fun e w' => e = .returned (.int .i64 (((splitC c.toNat (bytesOf s)).length - 1 : Nat) : Int)) ∧ w = w' := by
  have HC : Hid (((c.toNat : Nat) : Int).toNat.toUInt8 = c) := Lib.hid (by simp)
  have HN : Hid (Lib.countByte s.data.toList c = (splitC c.toNat (bytesOf s)).length - 1) := Lib.hid (by rw [countByte_c, splitC_len]; simp)
  go_enter Tryz.func96, Tryz.ntmps96
  go_wp2
  rw [run_callFunc_extern Tryz.func141 (by kernel_rfl) (by kernel_rfl) (by kernel_rfl) (e := Extern.BytealgCount.count) (by kernel_rfl), Lib.run_countString]
  simp only [Result.andThen]
  rw [Oper.upon_value]
  go_wp2
  go_ret
  refine ⟨?_, rfl⟩
  show Ending.returned (.int .i64 ((Lib.countByte s.data.toList c : Nat) : Int)) = _
  rw [HN.out]
/-- A slice that reads as texts. -/
def TextsAt (w : World) (v : Value) (ps : List (List Nat)) : Prop := ∃ a cap, v = .slice a ps.length cap ∧ ps.length ≤ cap ∧ ∀ i, (hi : i < ps.length) → ∃ b off, a = some ⟨b, off, none⟩ ∧ w.cell? ⟨b, off + i, none⟩ = some (.string (strOf ps[i]))
theorem textCell_lt {w : World} {b o : Nat} {u : Value} (h : w.cell? ⟨b, o, none⟩ = some u) : b < w.heap.size := by
  rcases Nat.lt_or_ge b w.heap.size with h1 | h1
  · exact h1
  · rw [show w.cell? ⟨b, o, none⟩ = none by simp [World.cell?, Array.getElem?_eq_none h1]] at h; cases h
theorem TextsAt.below {w w' : World} {v : Value} {l : List (List Nat)} {B : Nat} (h : TextsAt w v l) (hb : Below B w w') (hB : w.heap.size ≤ B) : TextsAt w' v l := by
  obtain ⟨a, cap, e, hc, h⟩ := h
  refine ⟨a, cap, e, hc, fun i hi => ?_⟩
  obtain ⟨b, off, e2, h2⟩ := h i hi
  exact ⟨b, off, e2, (hb.cell (p := ⟨b, _, none⟩) (Nat.lt_of_lt_of_le (textCell_lt h2) hB)).trans h2⟩
theorem TextsAt.upd {w w' : World} {v : Value} {l : List (List Nat)} (h : TextsAt w v l) (hu : Upd [] w w') : TextsAt w' v l := h.below hu.below (Nat.le_refl _)
def strsV (ps : List (List Nat)) : List Value := ps.map fun p => .string (strOf p)
theorem Row.textsAt {w : World} {v : Value} {ps : List (List Nat)} (h : Row w 9 1 v ps.length (strsV ps)) : TextsAt w v ps := by
  obtain ⟨a, cap, rfl⟩ := h.form
  rcases Nat.eq_zero_or_pos ps.length with h0 | h0
  · refine ⟨a, cap, rfl, by omega, fun i hi => by omega⟩
  · obtain ⟨g, cap', hv, _, hc⟩ := h.form' h0
    simp only [Value.slice.injEq] at hv
    obtain ⟨rfl, _, rfl⟩ := hv
    exact ⟨_, _, rfl, hc, fun i hi => ⟨g, 0, rfl, by rw [Nat.zero_add]; exact h.cell i (by unfold strsV; rw [List.getElem?_map, List.getElem?_eq_getElem hi]; rfl)⟩⟩
theorem infoStrE : (Tryz.prog.info? 9).map (fun i => (i.zero, i.size, i.bytes)) = some (some (.string ByteArray.empty), 1, 16) := by kernel_rfl
theorem split_set (ps rest : List (List Nat)) (x : List Nat) (n : Nat) (h : ps.length < n) : (strsV ps ++ List.replicate (n - ps.length) (Value.string .empty)).set ps.length (Value.string (strOf x)) = strsV (ps ++ [x]) ++ List.replicate (n - (ps.length + 1)) (Value.string .empty) := by
  rw [show n - ps.length = (n - (ps.length + 1)) + 1 by omega, List.replicate_succ, List.set_append_right _ _ (by simp [strsV])]
  simp [strsV]
set_option maxRecDepth 100000 in
set_option maxHeartbeats 3200000 in
theorem genSplitC_row (s : ByteArray) (c : UInt8) (w : World) (hs : s.size ≤ 1000000) :
    Calls Tryz.prog 57 #[.string s, .string { data := #[c] }, .int .i64 0, .int .i64 (-1)] w fun e w' => (∃ v, e = .returned v ∧ Row w' 9 1 v (splitC c.toNat (bytesOf s)).length (strsV (splitC c.toNat (bytesOf s)))) ∧ Upd [] w w' := by
  have HI := Lib.hid (fun (x : ByteArray) (w : World) => indexC_any x c w)
  have HC := Lib.hid (fun w => countC_any s c w)
  obtain ⟨P, hP⟩ : ∃ P, splitC c.toNat (bytesOf s) = P := ⟨_, rfl⟩
  have hP0 : 0 < P.length := by rw [← hP]; exact List.length_pos_iff.2 (splitC_ne _ _)
  have hPs : P.length ≤ s.size + 1 := by rw [← hP, splitC_len]; have := List.countP_le_length (p := fun x => decide (x = c.toNat)) (l := bytesOf s); rw [length_bytesOf] at this; omega
  obtain ⟨n, hn⟩ : ∃ n, P.length = n + 1 := ⟨P.length - 1, by omega⟩
  rw [hP, hn] at HC
  rw [hP]
  have HP := Lib.hid hP
  have HPN := Lib.hid hn
  have hn1 : n ≤ s.size := by omega
  clear hP hP0 hPs hn
  rw [Nat.add_sub_cancel] at HC
  have hmin : min ((n : Int) + 1) ((s.size : Int) + 1) = ((n + 1 : Nat) : Int) := by omega
  have hmk := fun w => run_make_row' (P := Tryz.prog) 33 9 (.string ByteArray.empty) 16 Tryz.underlying33 infoStrE rfl .i64 .i64 (n + 1) (by omega) (by omega) (w := w)
  have ec : ((n + 1 : Nat) : Int) = (n : Int) + 1 := by omega
  simp only [ec] at hmk hmin
  clear ec
  have hn0 : ¬ (n : Int) + 1 < 0 := by omega
  go_enter Tryz.func57, Tryz.ntmps57
  go_wp2_with fail
  refine (HC.out _).mono ?_
  rintro e w' ⟨rfl, rfl⟩
  go_wp2
  have hB0 : Row (w.alloc (.cells (madeCells #[.string ByteArray.empty] (n + 1)) 9)) 9 1 (.slice (some ⟨w.heap.size, 0, none⟩) (n + 1) (n + 1)) (n + 1) (strsV [] ++ List.replicate (n + 1 - 0) (Value.string .empty)) := by
    have e : madeCells #[.string ByteArray.empty] (n + 1) = (strsV [] ++ List.replicate (n + 1 - 0) (Value.string .empty)).toArray := by
      apply Array.ext
      · simp [madeCells, strsV]
      · intro j h1 h2
        simp [madeCells, strsV, Nat.mod_one]
    rw [e]
    exact Row.new w _ 9 (n + 1) 1 (by unfold maxLen; omega) (by simp [strsV])
  have hU0 : Upd [] w (w.alloc (.cells (madeCells #[.string ByteArray.empty] (n + 1)) 9)) := (Upd.refl [] w).alloc _
  generalize w.alloc (.cells (madeCells #[.string ByteArray.empty] (n + 1)) 9) = w0 at *
  obtain ⟨b0, hb0⟩ : ∃ b0, w.heap.size = b0 := ⟨_, rfl⟩
  rw [hb0] at hB0 ⊢
  have HBS := Lib.hid (show w.heap.size ≤ b0 by omega)
  have HB0 := Lib.hid hB0
  have HU0 := Lib.hid hU0
  clear hb0 hmk hmin hB0 hU0
  go_loopg [0, 10] n (fun g s0 s10 wr => ∃ i, i ≤ n ∧ g = n - i ∧ s10 = .int .i64 (i : Nat) ∧ ∃ (done : List (List Nat)) (rest : ByteArray), s0 = .string rest ∧ done.length = i ∧ rest.size ≤ 1000000 ∧ Hid (done ++ splitC c.toNat (bytesOf rest) = P) ∧ Hid (Row wr 9 1 (.slice (some ⟨b0, 0, none⟩) (n + 1) (n + 1)) (n + 1) (strsV done ++ List.replicate (n + 1 - i) (Value.string .empty))) ∧ Hid (Upd [] w wr))
  case atStart => exact ⟨0, Nat.zero_le _, rfl, rfl, [], s, rfl, rfl, hs, HP, HB0, HU0⟩
  case round =>
    clear HB0 HU0 HP
    obtain ⟨i, hin, rfl, rfl, done, rest, rfl, hdl, hrs, HD, HR, HU⟩ := hrel
    have c1 := HR.out.cell i (u := .string .empty) (by
      have hz : (strsV done).length = i := by rw [← hdl]; simp [strsV]
      rw [List.getElem?_append_right (by omega), hz, List.getElem?_replicate, if_pos (by omega)])
    have f1 := HR.out.frz i
    have hsp := splitC_first c.toNat (bytesOf rest)
    have hsl := splitC_last c.toNat (bytesOf rest)
    have hfl := firstC_le c.toNat (bytesOf rest)
    have hix : Lib.indexByte rest.data.toList c = if firstC c.toNat (bytesOf rest) < rest.size then (firstC c.toNat (bytesOf rest) : Int) else -1 := by rw [indexByte_c]; rw [show rest.data.toList.length = rest.size by simp]; rfl
    have HSE := Lib.hid (fun f => strOf_take rest f)
    have HDE := Lib.hid (fun f => (bytesOf_extract rest (f + 1) rest.size))
    have hbl := length_bytesOf rest
    rw [hbl] at hsp hsl hfl
    have HI2 := Lib.hid (HI.out rest)
    by_cases hc9 : i < n
    · have hcz : (i : Int) < (n : Int) := by omega
      have hiz : (i : Int) < (n : Int) + 1 := by omega
      by_cases hf : firstC c.toNat (bytesOf rest) < rest.size
      · have e1 := hsp hf
        rw [hix, if_pos hf] at HI2
        have HE : Hid (done ++ [(bytesOf rest).take (firstC c.toNat (bytesOf rest))] ++ splitC c.toNat (bytesOf (rest.extract (firstC c.toNat (bytesOf rest) + 1) rest.size)) = P) := Lib.hid (by
          rw [HDE.out, List.take_of_length_le (l := (bytesOf rest).drop _) (by rw [List.length_drop, hbl]; omega), ← HD.out, e1, List.append_assoc]; rfl)
        have HS1 := Lib.hid (HSE.out (firstC c.toNat (bytesOf rest)))
        generalize firstC c.toNat (bytesOf rest) = f at *
        have HST := Lib.hid (split_set done [] ((bytesOf rest).take f) (n + 1) (by omega))
        clear hsp hsl hix hbl e1 HSE HDE
        have hf0 : ¬ (f : Int) < 0 := by omega
        have hf1 : (f : Int) ≤ (rest.size : Int) := by omega
        have hf2 : (f : Int) + 1 ≤ (rest.size : Int) := by omega
        go_wp2_with fail
        refine (HI2.out _).mono ?_
        rintro e w9 ⟨rfl, rfl⟩
        go_wp2
        have HR2 : Hid (Row (wr.setCell ⟨b0, i, none⟩ (.string (rest.extract 0 f))) 9 1 (.slice (some ⟨b0, 0, none⟩) (n + 1) (n + 1)) (n + 1) (strsV (done ++ [(bytesOf rest).take f]) ++ List.replicate (n + 1 - (i + 1)) (Value.string .empty))) := Lib.hid (by
          have := HR.out.set i (.string (rest.extract 0 f))
          rw [HS1.out] at this ⊢
          rw [← hdl] at this ⊢
          rw [HST.out] at this
          exact this)
        go_roundg (n - (i + 1))
        · exact ⟨i + 1, by omega, rfl, by first | rfl | go_num, done ++ [(bytesOf rest).take f], rest.extract (f + 1) rest.size, rfl, by rw [List.length_append, hdl]; rfl, by rw [ByteArray.size_extract]; omega, HE, HR2, Lib.hid (HU.out.setCell (.inr HBS.out) _)⟩
        · omega
      · exfalso
        have e1 := hsl hf
        have := congrArg List.length HD.out
        rw [e1, List.length_append, HPN.out] at this
        simp at this
        omega
    · have hcz : ¬ (i : Int) < (n : Int) := by omega
      have hni : i = n := by omega
      subst hni
      have e1 : splitC c.toNat (bytesOf rest) = [bytesOf rest] := by
        have h1 := congrArg List.length HD.out
        rw [List.length_append, HPN.out] at h1
        have h2 : (splitC c.toNat (bytesOf rest)).length = 1 := by omega
        by_cases hf : firstC c.toNat (bytesOf rest) < rest.size
        · have h3 := hsp hf
          rw [h3] at h2
          simp at h2
          exact absurd h2 (splitC_ne _ _)
        · exact hsl hf
      have HPE : Hid (P = done ++ [bytesOf rest]) := Lib.hid (by rw [← HD.out, e1])
      have HST := Lib.hid (split_set done [] (bytesOf rest) (i + 1) (by omega))
      have HSB := Lib.hid (strOf_bytesOf rest)
      clear hsp hsl hix hbl e1 HSE HDE HI2 hfl
      have hi1 : (i : Int) < (i : Int) + 1 := by omega
      go_wp2
      go_ret
      refine ⟨⟨_, rfl, ?_⟩, HU.out.setCell (.inr HBS.out) _⟩
      have hR2 := HR.out.set i (.string rest)
      rw [← HSB.out] at hR2
      have HST2 := HST.out
      rw [← hdl] at hR2 HST2
      rw [HST2, ← HPE.out] at hR2
      have hz : P.length = done.length + 1 := by rw [HPN.out, hdl]
      rw [← hz, Nat.sub_self, List.replicate_zero, List.append_nil] at hR2
      rw [HSB.out] at hR2
      rw [hz, hdl] at hR2
      rw [hz, hdl]
      exact hR2
theorem splitC_row (s : ByteArray) (c : UInt8) (w : World) (hs : s.size ≤ 1000000) :
    Calls Tryz.prog 25 #[.string s, .string { data := #[c] }] w fun e w' => (∃ v, e = .returned v ∧ Row w' 9 1 v (splitC c.toNat (bytesOf s)).length (strsV (splitC c.toNat (bytesOf s)))) ∧ Upd [] w w' := by
  have HG := Lib.hid (fun w => genSplitC_row s c w hs)
  generalize splitC c.toNat (bytesOf s) = P at *
  go_enter Tryz.func25, Tryz.ntmps25
  go_wp2_with fail
  refine (HG.out _).mono ?_
  rintro e w1 ⟨⟨v, rfl, hv⟩, hu⟩
  go_wp2
  go_ret
  exact ⟨⟨v, rfl, hv⟩, hu⟩
end Go.Proofs.YtigjingielnaoaaGreatDoor
namespace Go.Proofs.YtigjingielnaoaaGreatDoor
set_option linter.unusedVariables false
set_option linter.unusedSimpArgs false
set_option linter.unusedSectionVars false
open Go.RowKit
set_option linter.unusedVariables false
set_option linter.unusedSimpArgs false

/-- The value of a digit; nought for what is none. -/
def hexIx (c : Nat) : Nat := (max 0 (Lib.indexByte hexes.data.toList (UInt8.ofNat c))).toNat
theorem indexByte_lt (c : UInt8) : ∀ l : List UInt8, 0 < l.length → Lib.indexByte l c < l.length
  | [], h => by cases h
  | b :: l, _ => by
    unfold Lib.indexByte
    have hge := Lib.indexByte_ge l c
    split
    · simp
    · split
      · simp; omega
      · cases l with
        | nil => simp_all [Lib.indexByte]
        | cons b2 l2 =>
          have := indexByte_lt c (b2 :: l2) (by simp)
          simp only [List.length_cons] at this ⊢
          omega
theorem hexIx_lt (c : Nat) : hexIx c < 16 := by
  unfold hexIx
  have h := indexByte_lt (UInt8.ofNat c) hexes.data.toList (by decide)
  have hl : hexes.data.toList.length = 16 := rfl
  rw [hl] at h
  omega
theorem hexIx_hexd (k : Nat) (h : k < 16) : hexIx (hexd k) = k := by
  have : ∀ k : Fin 16, hexIx (hexd k.val) = k.val := by decide
  exact this ⟨k, h⟩
theorem indexB_any (s : ByteArray) (c : UInt8) (w : World) : Calls Tryz.prog 145 #[.string s, .int .u8 (c.toNat : Nat)] w fun e w' => e = .returned (.int .i64 (Lib.indexByte s.data.toList c)) ∧ w = w' := by
  have HB := Lib.hid (fun w => sliteByteC_any s c w)
  go_enter Tryz.func145, Tryz.ntmps145
  go_wp2_with fail
  refine (HB.out _).mono ?_
  rintro e w' ⟨rfl, rfl⟩
  go_wp2
  go_ret
  exact ⟨rfl, rfl⟩
end Go.Proofs.YtigjingielnaoaaGreatDoor
