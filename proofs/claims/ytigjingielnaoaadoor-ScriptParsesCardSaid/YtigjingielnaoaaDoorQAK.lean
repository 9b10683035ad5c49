/- Package node: Perm of any number, Mode: walks. -/
import Derived.Test.YtigjingielnaoaaDoorQAD
import Derived.Test.YtigjingielnaoaaDoorDosPa
import Derived.Lib.Bytealg
import Derived.Test.YtigjingielnaoaaDoorQAA
namespace Go.Proofs.YtigjingielnaoaaDoor
set_option linter.unusedVariables false
set_option linter.unusedSimpArgs false
set_option linter.unusedSectionVars false
open Go.RowKit
set_option linter.unusedVariables false
set_option linter.unusedSimpArgs false

/-- The bits of any signs. -/
def bitsM (l : List Nat) : Nat := l.foldl (fun n c => 2 * n + if c = 45 then 0 else 1) 0
theorem bitsM_snoc (l : List Nat) (c : Nat) : bitsM (l ++ [c]) = 2 * bitsM l + if c = 45 then 0 else 1 := by unfold bitsM; rw [List.foldl_append]; rfl
theorem bitsM_lt : ∀ (n : Nat) (l : List Nat), l.length = n → bitsM l < 2 ^ n
  | 0, l, h => by rw [List.eq_nil_of_length_eq_zero h]; simp [bitsM]
  | n + 1, l, h => by
    rcases List.eq_nil_or_concat l with rfl | ⟨L, c, rfl⟩
    · simp at h
    · rw [List.concat_eq_append] at h ⊢
      have ih := bitsM_lt n L (by simp at h; exact h)
      rw [bitsM_snoc, Nat.pow_succ]
      split <;> omega
/-- The mode of a text. -/
def modeP (l : List Nat) : Nat × Bool := if l.length ≠ 9 then (0, false) else if permTo (bitsM l) 9 = l then (bitsM l, true) else (0, false)
def modeV (l : List Nat) : Value := .tuple #[.int .i64 ((modeP l).1 : Nat), .bool (modeP l).2]
theorem or_i64 (a b : Nat) (ha : a < 9223372036854775808) (hb : b < 9223372036854775808) : bits .or .i64 (a : Int) (b : Int) = ((a ||| b : Nat) : Int) := by
  show IntKind.i64.wrap ((BitVec.ofInt 64 (a : Int) ||| BitVec.ofInt 64 (b : Int)).toNat : Int) = _
  rw [BitVec.toNat_or, ofInt_nat 64 a (by omega), ofInt_nat 64 b (by omega)]
  have := Nat.or_lt_two_pow (n := 63) ha hb
  exact IntWalk.i64_in _ (by omega)
theorem permTo_lt (m : Nat) : ∀ i, ∀ x ∈ permTo m i, x < 256
  | 0, x, h => by simp [permTo, permBase] at h; omega
  | i + 1, x, h => by
    unfold permTo at h
    split at h
    · rcases List.mem_or_eq_of_mem_set h with h | rfl
      · exact permTo_lt m i x h
      · omega
    · exact permTo_lt m i x h
set_option maxRecDepth 100000 in
set_option maxHeartbeats 3200000 in
theorem mode14_any (S : ByteArray) (w : World) (hs : S.size ≤ 9223372036854775807) : Calls Tryd.prog 28 #[.string S] w fun e w' => e = .returned (modeV (bytesOf S)) ∧ Upd [] w w' := by
  have hbl := length_bytesOf S
  by_cases h9 : S.size = 9
  rotate_left
  · have HV : Hid (modeV (bytesOf S) = .tuple #[.int .i64 0, .bool false]) := Lib.hid (by unfold modeV modeP; rw [if_pos (by omega)]; rfl)
    have t1 : ((S.size : Int) != 9) = true := by rw [bne_iff_ne]; omega
    clear hbl h9
    go_enter Tryd.func28, Tryd.ntmps28
    go_wp2
    go_ret2
    exact ⟨by rw [HV.out]; rfl, Upd.refl _ _⟩
  · have t1 : ((S.size : Int) != 9) = false := by rw [bne_eq_false_iff_eq]; omega
    have HV : Hid (modeV (bytesOf S) = if permTo (bitsM (bytesOf S)) 9 = bytesOf S then .tuple #[.int .i64 (bitsM (bytesOf S) : Nat), .bool true] else .tuple #[.int .i64 0, .bool false]) := Lib.hid (by
      unfold modeV modeP
      rw [if_neg (by omega)]
      split <;> rfl)
    have HZ := Lib.hid h9
    have HP := Lib.hid (fun k w h => perm_any k w h)
    clear hbl h9
    go_enter Tryd.func28, Tryd.ntmps28
    go_wp2
    go_loopg [2, 8] 9 (fun gg s2 s8 wr => ∃ i, i ≤ 9 ∧ gg = 9 - i ∧ s8 = .int .i64 (i : Nat) ∧ (∃ m : Nat, s2 = .int .i64 (m : Nat) ∧ Hid (m = bitsM ((bytesOf S).take i)) ∧ m < 512) ∧ wr = w)
    case atStart => exact ⟨0, Nat.zero_le _, rfl, rfl, ⟨0, rfl, Lib.hid rfl, by omega⟩, rfl⟩
    case round =>
      obtain ⟨i, hin, rfl, rfl, ⟨m, rfl, HM, hm⟩, rfl⟩ := hrel
      by_cases hc : i < 9
      · have hcz : (i : Int) < 9 := by omega
        have hz := HZ.out
        have hci : i < S.size := by omega
        have hil : i < (bytesOf S).length := by rw [length_bytesOf]; exact hci
        have HG : Hid (bitsM ((bytesOf S).take (i + 1)) = 2 * m + if S[i].toNat = 45 then 0 else 1) := Lib.hid (by
          rw [List.take_succ_eq_append_getElem hil, bitsM_snoc, ← HM.out, bytesOf_get S i hci])
        have hlt : bitsM ((bytesOf S).take (i + 1)) < 512 := by
          have := bitsM_lt (i + 1) ((bytesOf S).take (i + 1)) (by rw [List.length_take]; omega)
          have h2 : 2 ^ (i + 1) ≤ 2 ^ 9 := Nat.pow_le_pow_right (by omega) (by omega)
          omega
        have hbl : S[i].toNat < 256 := S[i].toNat_lt
        have hor : bits .or .i64 ((m : Int) * 2) 1 = ((2 * m + 1 : Nat) : Int) := by
          have h := or_i64 (2 * m) 1 (by omega) (by omega)
          have e : 2 * m ||| 1 = 2 * m + 1 := or_add m 1 1 (by omega)
          rw [e] at h
          rw [show (m : Int) * 2 = ((2 * m : Nat) : Int) by omega]
          exact h
        rw [HG.out] at hlt
        generalize hcc : S[i].toNat = c at *
        by_cases h45 : c = 45
        · have t2 : ((c : Int) != 45) = false := by rw [bne_eq_false_iff_eq]; omega
          have HG2 : Hid (bitsM ((bytesOf S).take (i + 1)) = 2 * m) := Lib.hid (by rw [HG.out, if_pos h45]; rfl)
          clear HG HM h45 hlt hil hor
          go_wp2
          go_roundg (9 - (i + 1))
          · exact ⟨i + 1, by omega, rfl, by first | rfl | go_num, ⟨2 * m, by first | rfl | go_num, Lib.hid HG2.out.symm, by have := bitsM_lt (i + 1) ((bytesOf S).take (i + 1)) (by rw [List.length_take, length_bytesOf]; omega); have h2 : 2 ^ (i + 1) ≤ 2 ^ 9 := Nat.pow_le_pow_right (by omega) (by omega); have := HG2.out; omega⟩, rfl⟩
          · omega
        · have t2 : ((c : Int) != 45) = true := by rw [bne_iff_ne]; omega
          have HG2 : Hid (bitsM ((bytesOf S).take (i + 1)) = 2 * m + 1) := Lib.hid (by rw [HG.out, if_neg h45])
          clear HG HM h45 hlt hil
          go_wp2
          go_roundg (9 - (i + 1))
          · exact ⟨i + 1, by omega, rfl, by first | rfl | go_num, ⟨2 * m + 1, by first | rfl | go_num, Lib.hid HG2.out.symm, by have := bitsM_lt (i + 1) ((bytesOf S).take (i + 1)) (by rw [List.length_take, length_bytesOf]; omega); have h2 : 2 ^ (i + 1) ≤ 2 ^ 9 := Nat.pow_le_pow_right (by omega) (by omega); have := HG2.out; omega⟩, rfl⟩
          · omega
      · have hcz : ¬ (i : Int) < 9 := by omega
        have hix : i = 9 := by omega
        subst hix
        have hT : (bytesOf S).take 9 = bytesOf S := List.take_of_length_le (by rw [length_bytesOf]; have := HZ.out; omega)
        rw [hT] at HM
        clear hT
        rw [← HM.out] at HV
        have hne := strOf_eqS (permTo m 9) S (permTo_lt m 9)
        by_cases hq : permTo m 9 = bytesOf S
        · rw [decide_eq_true hq] at hne
          rw [if_pos hq] at HV
          clear hq
          go_wp2_with fail
          refine (HP.out m _ hm).mono ?_
          rintro e w1 ⟨rfl, hu1⟩
          go_wp2
          go_ret2
          exact ⟨by rw [HV.out]; rfl, hu1⟩
        · rw [decide_eq_false hq] at hne
          rw [if_neg hq] at HV
          clear hq
          go_wp2_with fail
          refine (HP.out m _ hm).mono ?_
          rintro e w1 ⟨rfl, hu1⟩
          go_wp2
          go_ret2
          exact ⟨by rw [HV.out]; rfl, hu1⟩
end Go.Proofs.YtigjingielnaoaaDoor
namespace Go.Proofs.YtigjingielnaoaaDoor
set_option linter.unusedVariables false
set_option linter.unusedSimpArgs false
set_option linter.unusedSectionVars false
open Go.RowKit
set_option linter.unusedVariables false
set_option linter.unusedSimpArgs false

/-- The decimal digits of a number. -/
def decL (n : Nat) : List Nat := if h : n < 10 then [48 + n] else decL (n / 10) ++ [48 + n % 10]
termination_by n
decreasing_by omega
theorem decL_small (n : Nat) (h : n < 10) : decL n = [48 + n] := by rw [decL, dif_pos h]
theorem decL_big (n : Nat) (h : ¬ n < 10) : decL n = decL (n / 10) ++ [48 + n % 10] := by rw [decL, dif_neg h]
theorem decL_len : ∀ (k n : Nat), n < 10 ^ k → (decL n).length ≤ k + 1
  | 0, n, h => by rw [decL_small n (by omega)]; simp
  | k + 1, n, h => by
    by_cases h10 : n < 10
    · rw [decL_small n h10]; simp
    · rw [decL_big n h10, List.length_append]
      have := decL_len k (n / 10) (by rw [Nat.pow_succ] at h; omega)
      simp; omega
theorem decL_dig : ∀ (k n : Nat), n < 10 ^ k → ∀ x ∈ decL n, 48 ≤ x ∧ x ≤ 57
  | 0, n, h, x, hx => by rw [decL_small n (by omega)] at hx; simp at hx; omega
  | k + 1, n, h, x, hx => by
    by_cases h10 : n < 10
    · rw [decL_small n h10] at hx; simp at hx; omega
    · rw [decL_big n h10] at hx
      rcases List.mem_append.1 hx with hx | hx
      · exact decL_dig k (n / 10) (by rw [Nat.pow_succ] at h; omega) x hx
      · simp at hx; omega
theorem conv1_row (n : Nat) (w : World) : (convert 85 9 (.slice (some ⟨w.heap.size, 0, none⟩) 1 1)).run Tryd.prog (w.alloc (.cells #[.int .u8 (48 + (n : Int) % 10)] 5)) = .ok (.string (strOf [48 + n % 10])) (w.alloc (.cells #[.int .u8 (48 + (n : Int) % 10)] 5)) := by
  have hB := Blk.new w (u8s [48 + n % 10]) 5
  have hcv := hB.conv (P := Tryd.prog) (c := 1) (n := 1) rfl Tryd.underlying85 Tryd.underlying5 Tryd.underlying9
  have hw2 : ((48 + n % 10 : Nat) : Int) = 48 + (n : Int) % 10 := by omega
  unfold u8s at hcv
  simp only [List.map_cons, List.map_nil] at hcv
  rw [hw2] at hcv
  exact hcv
theorem conv1_small (n : Nat) (w : World) : (convert 85 9 (.slice (some ⟨w.heap.size, 0, none⟩) 1 1)).run Tryd.prog (w.alloc (.cells #[.int .u8 (48 + (n : Int))] 5)) = .ok (.string (strOf [48 + n])) (w.alloc (.cells #[.int .u8 (48 + (n : Int))] 5)) := by
  have hB := Blk.new w (u8s [48 + n]) 5
  have hcv := hB.conv (P := Tryd.prog) (c := 1) (n := 1) rfl Tryd.underlying85 Tryd.underlying5 Tryd.underlying9
  have hw2 : ((48 + n : Nat) : Int) = 48 + (n : Int) := by omega
  unfold u8s at hcv
  simp only [List.map_cons, List.map_nil] at hcv
  rw [hw2] at hcv
  exact hcv
theorem add1_row (d : Nat) (L : List Nat) (hL : L.length ≤ 100) (w : World) : (Op.stringOp .add (strOf [d]) (strOf L)).run Tryd.prog w = .ok (.string (strOf (d :: L))) w := by
  rw [run_string_add_sum _ _ _ (by rw [size_strOf, size_strOf]; simp; omega), ← strOf_cat]; rfl
end Go.Proofs.YtigjingielnaoaaDoor
namespace Go.Proofs.YtigjingielnaoaaDoor
set_option linter.unusedVariables false
set_option linter.unusedSimpArgs false
set_option linter.unusedSectionVars false
open Go.RowKit
set_option linter.unusedVariables false
set_option linter.unusedSimpArgs false

set_option maxRecDepth 100000 in
set_option maxHeartbeats 3200000 in
theorem sdecN_any (n : Nat) (w : World) (hn : n < 1000000) : Calls Tryd.prog 77 #[.int .i64 (n : Nat)] w fun e w' => e = .returned (.string (strOf (decL n))) ∧ Upd [] w w' := by
  have hneg : ¬ (n : Int) < 0 := by omega
  go_enter Tryd.func77, Tryd.ntmps77
  go_wp2
  go_loopg [0, 3] (0 + n) (fun gg s0 s3 wr => ∃ (m : Nat) (L : List Nat), gg = 0 + m ∧ s0 = .int .i64 (m : Nat) ∧ s3 = .string (strOf L) ∧ Hid (decL n = decL m ++ L) ∧ m < 1000000 ∧ Hid (L.length ≤ 7) ∧ Hid (Upd [] w wr))
  case atStart => exact ⟨n, [], rfl, rfl, rfl, Lib.hid (by simp), hn, Lib.hid (by simp), Lib.hid (Upd.refl _ _)⟩
  case round =>
    obtain ⟨m, L, rfl, rfl, rfl, HM, hm, HL, HU⟩ := hrel
    have HA := Lib.hid (fun d w => add1_row d L (by have := HL.out; omega) w)
    by_cases hc : 9 < m
    · have hcz : (9 : Int) < (m : Int) := by omega
      have hcv := conv1_row m wr
      have hadd := fun w => HA.out (48 + m % 10) w
      have HL2 : Hid (decL n = decL (m / 10) ++ ((48 + m % 10) :: L)) := Lib.hid (by rw [HM.out, decL_big m (by omega), List.append_assoc]; rfl)
      have HL7 : Hid (((48 + m % 10) :: L).length ≤ 7) := Lib.hid (by
        have h1 := HL2.out
        have h2 := decL_len 6 n (by omega)
        have h3 : 0 < (decL (m / 10)).length := by
          by_cases h : m / 10 < 10
          · rw [decL_small _ h]; simp
          · rw [decL_big _ h]; simp
        rw [h1, List.length_append] at h2
        omega)
      generalize ((48 + m % 10) :: L) = L2 at *
      go_wp2
      go_roundg (0 + m / 10)
      · exact ⟨m / 10, L2, rfl, by first | rfl | go_num, rfl, HL2, by omega, HL7, Lib.hid (HU.out.alloc _)⟩
      · omega
    · have hcz : ¬ (9 : Int) < (m : Int) := by omega
      have hcv := conv1_small m wr
      have hadd := fun w => HA.out (48 + m) w
      have HL2 : Hid (decL n = (48 + m) :: L) := Lib.hid (by rw [HM.out, decL_small m (by omega)]; rfl)
      generalize ((48 + m) :: L) = L2 at *
      go_wp2
      go_ret
      exact ⟨by rw [HL2.out]; rfl, HU.out.alloc _⟩
/-- The decimal digits of a number, with a sign. -/
def decZ (n : Int) : List Nat := if n < 0 then 45 :: decL (-n).toNat else decL n.toNat
set_option maxRecDepth 100000 in
set_option maxHeartbeats 3200000 in
theorem sdec_any (n : Int) (w : World) (h1 : -1000000 < n) (h2 : n < 1000000) : Calls Tryd.prog 77 #[.int .i64 n] w fun e w' => e = .returned (.string (strOf (decZ n))) ∧ Upd [] w w' := by
  by_cases hn : n < 0
  · obtain ⟨m, rfl⟩ : ∃ m : Nat, n = -(m : Int) := ⟨(-n).toNat, by omega⟩
    have HV : Hid (decZ (-(m : Int)) = 45 :: decL m) := Lib.hid (by unfold decZ; rw [if_pos hn]; congr 2; omega)
    have HD := Lib.hid (fun w => sdecN_any m w (by omega))
    have hl := decL_len 6 m (by omega)
    have HA := add1_row 45 (decL m) (by omega)
    have y : strOf [45] = ({ data := #[45] } : ByteArray) := rfl
    rw [y] at HA
    have hw1 : IntKind.i64.wrap (-(-(m : Int))) = (m : Int) := by rw [Int.neg_neg, IntWalk.i64_in _ (by omega)]
    have hw2 : IntKind.i64.wrap (m : Int) = (m : Int) := by rw [IntWalk.i64_in _ (by omega)]
    have hm0 : 0 < m := by omega
    clear y hl
    rw [HV.out]
    generalize 45 :: decL m = L2 at *
    generalize decL m = L1 at *
    go_enter Tryd.func77, Tryd.ntmps77
    go_wp2_with fail
    refine (HD.out _).mono ?_
    rintro e w1 ⟨rfl, hu1⟩
    go_wp2
    go_ret
    exact ⟨rfl, hu1⟩
  · obtain ⟨m, rfl⟩ : ∃ m : Nat, n = m := ⟨n.toNat, by omega⟩
    have h := sdecN_any m w (by omega)
    unfold decZ
    rw [if_neg hn, Int.toNat_natCast]
    exact h
end Go.Proofs.YtigjingielnaoaaDoor
namespace Go.Proofs.YtigjingielnaoaaDoor
set_option linter.unusedVariables false
set_option linter.unusedSimpArgs false
set_option linter.unusedSectionVars false
open Go.RowKit
set_option linter.unusedVariables false
set_option linter.unusedSimpArgs false

def hexes : ByteArray := { data := #[48, 49, 50, 51, 52, 53, 54, 55, 56, 57, 97, 98, 99, 100, 101, 102] }
def hexd (k : Nat) : Nat := if k < 10 then 48 + k else 87 + k
/-- So many digits to the base 16. -/
def hexP (n : Nat) : Nat → List Nat
  | 0 => []
  | k + 1 => hexP (n / 16) k ++ [hexd (n % 16)]
theorem hexes_get (k : Nat) (h : k < 16) : (hexes[k]'(by exact h)).toNat = hexd k := by
  have : ∀ k : Fin 16, (hexes[k.val]'(by exact k.isLt)).toNat = hexd k.val := by decide
  exact this ⟨k, h⟩
theorem addl_row (L M : List Nat) (hL : L.length + M.length ≤ 1000) (w : World) : (Op.stringOp .add (strOf L) (strOf M)).run Tryd.prog w = .ok (.string (strOf (L ++ M))) w := by
  rw [run_string_add_sum _ _ _ (by rw [size_strOf, size_strOf]; omega), ← strOf_cat]
end Go.Proofs.YtigjingielnaoaaDoor
namespace Go.Proofs.YtigjingielnaoaaDoor
set_option linter.unusedVariables false
set_option linter.unusedSimpArgs false
set_option linter.unusedSectionVars false
open Go.RowKit

/-- How many bytes stand ahead of the first c. -/
def firstC (c : Nat) (l : List Nat) : Nat := (l.takeWhile (fun x => decide (x ≠ c))).length
theorem firstC_le (c : Nat) (l : List Nat) : firstC c l ≤ l.length := (List.takeWhile_prefix _).length_le
theorem firstC_cons (c x : Nat) (r : List Nat) : firstC c (x :: r) = if x = c then 0 else firstC c r + 1 := by
  unfold firstC
  rw [List.takeWhile_cons]
  by_cases h : x = c <;> simp [h]
/-- What stands between the c's. -/
def splitC (c : Nat) : List Nat → List (List Nat)
  | [] => [[]]
  | x :: r => if x = c then [] :: splitC c r else (x :: (splitC c r).headD []) :: (splitC c r).tail
theorem splitC_first (c : Nat) : ∀ (l : List Nat), firstC c l < l.length → splitC c l = l.take (firstC c l) :: splitC c (l.drop (firstC c l + 1))
  | [], h => by simp at h
  | x :: r, h => by
    rw [firstC_cons] at h ⊢
    by_cases e : x = c
    · subst e; simp [splitC]
    · rw [if_neg e] at h ⊢
      have ih := splitC_first c r (by rw [List.length_cons] at h; omega)
      have e2 : splitC c (x :: r) = (x :: (splitC c r).headD []) :: (splitC c r).tail := by rw [splitC, if_neg e]
      rw [e2, ih]
      simp
theorem splitC_last (c : Nat) : ∀ (l : List Nat), ¬ firstC c l < l.length → splitC c l = [l]
  | [], _ => rfl
  | x :: r, h => by
    rw [firstC_cons] at h
    by_cases e : x = c
    · rw [if_pos e] at h; simp at h
    · rw [if_neg e] at h
      have ih := splitC_last c r (by rw [List.length_cons] at h; omega)
      have e2 : splitC c (x :: r) = (x :: (splitC c r).headD []) :: (splitC c r).tail := by rw [splitC, if_neg e]
      rw [e2, ih]
      simp
theorem splitC_ne (c : Nat) (l : List Nat) : splitC c l ≠ [] := by
  cases l with
  | nil => simp [splitC]
  | cons x r => unfold splitC; split <;> simp
theorem splitC_len (c : Nat) : ∀ l : List Nat, (splitC c l).length = l.countP (fun x => decide (x = c)) + 1
  | [] => rfl
  | x :: r => by
    have ih := splitC_len c r
    by_cases e : x = c
    · rw [splitC, if_pos e, List.length_cons, ih, List.countP_cons_of_pos (by simpa using e)]
    · rw [splitC, if_neg e, List.length_cons, List.length_tail, ih, List.countP_cons_of_neg (by simpa using e)]; omega
theorem splitC_mem (c : Nat) : ∀ (l : List Nat), ∀ p ∈ splitC c l, (∀ x ∈ p, x ∈ l) ∧ p.length ≤ l.length
  | [], p, h => by simp [splitC] at h; subst h; simp
  | x :: r, p, h => by
    rw [splitC] at h
    by_cases e : x = c
    · rw [if_pos e] at h
      rcases List.mem_cons.1 h with rfl | h
      · simp
      · have := splitC_mem c r p h
        exact ⟨fun y hy => List.mem_cons_of_mem _ (this.1 y hy), by rw [List.length_cons]; omega⟩
    · rw [if_neg e] at h
      rcases List.mem_cons.1 h with rfl | h
      · have hm : (splitC c r).headD [] ∈ splitC c r := by
          cases hs : splitC c r with
          | nil => exact absurd hs (splitC_ne c r)
          | cons a b => simp
        have := splitC_mem c r _ hm
        refine ⟨fun y hy => ?_, by rw [List.length_cons, List.length_cons]; omega⟩
        rcases List.mem_cons.1 hy with rfl | hy
        · simp
        · exact List.mem_cons_of_mem _ (this.1 y hy)
      · have := splitC_mem c r p (List.mem_of_mem_tail h)
        exact ⟨fun y hy => List.mem_cons_of_mem _ (this.1 y hy), by rw [List.length_cons]; omega⟩
/-- Parts with a sign between. -/
def joinC (c : Nat) : List (List Nat) → List Nat
  | [] => []
  | [p] => p
  | p :: q :: r => p ++ c :: joinC c (q :: r)
theorem joinC_split (c : Nat) : ∀ l : List Nat, joinC c (splitC c l) = l
  | [] => rfl
  | x :: r => by
    have ih := joinC_split c r
    by_cases e : x = c
    · rw [splitC, if_pos e]
      cases hs : splitC c r with
      | nil => exact absurd hs (splitC_ne c r)
      | cons a b => rw [hs] at ih; rw [joinC, ih, e]; rfl
    · rw [splitC, if_neg e]
      cases hs : splitC c r with
      | nil => exact absurd hs (splitC_ne c r)
      | cons a b =>
        rw [hs] at ih
        cases b with
        | nil => simp only [joinC, List.headD_cons, List.tail_cons] at ih ⊢; rw [ih]
        | cons d t => simp only [joinC, List.headD_cons, List.tail_cons, List.cons_append] at ih ⊢; rw [ih]
theorem joinC_snoc (c : Nat) : ∀ (ps : List (List Nat)) (p : List Nat), ps ≠ [] → joinC c (ps ++ [p]) = joinC c ps ++ c :: p
  | [], _, h => absurd rfl h
  | [q], p, _ => rfl
  | q :: r :: t, p, _ => by
    rw [List.cons_append, List.cons_append, joinC, ← List.cons_append, joinC_snoc c (r :: t) p (by simp), joinC, List.append_assoc]; rfl
theorem joinC_lt (c : Nat) (hc : c < 256) : ∀ (ps : List (List Nat)), (∀ p ∈ ps, ∀ x ∈ p, x < 256) → ∀ x ∈ joinC c ps, x < 256
  | [], _, x, h => by cases h
  | [p], h, x, hx => h p (by simp) x hx
  | p :: q :: r, h, x, hx => by
    rw [joinC] at hx
    rcases List.mem_append.1 hx with hx | hx
    · exact h p (by simp) x hx
    · rcases List.mem_cons.1 hx with rfl | hx
      · exact hc
      · exact joinC_lt c hc (q :: r) (fun y hy => h y (List.mem_cons_of_mem _ hy)) x hx
theorem indexByte_c (c : UInt8) (L : List UInt8) : Lib.indexByte L c = if firstC c.toNat (L.map UInt8.toNat) < L.length then (firstC c.toNat (L.map UInt8.toNat) : Int) else -1 := by
  induction L with
  | nil => rfl
  | cons b l ih =>
    have hb : (b == c) = decide (b.toNat = c.toNat) := by
      rw [Bool.eq_iff_iff]; simp [← UInt8.toNat_inj]
    rw [List.map_cons, firstC_cons, Lib.indexByte, hb, ih]
    by_cases e : b.toNat = c.toNat
    · simp [e]
    · rw [if_neg (by simp [e]), if_neg e]
      by_cases h : firstC c.toNat (l.map UInt8.toNat) < l.length
      · have h1 : (((firstC c.toNat (l.map UInt8.toNat) : Nat) : Int) == -1) = false := by rw [beq_eq_false_iff_ne]; omega
        rw [if_pos h, h1, if_pos (show firstC c.toNat (l.map UInt8.toNat) + 1 < (b :: l).length by rw [List.length_cons]; omega)]; simp
      · rw [if_neg h, if_neg (show ¬ firstC c.toNat (l.map UInt8.toNat) + 1 < (b :: l).length by rw [List.length_cons]; omega)]; rfl
theorem countByte_c (c : UInt8) (s : ByteArray) : Lib.countByte s.data.toList c = (bytesOf s).countP (fun x => decide (x = c.toNat)) := by
  unfold Lib.countByte bytesOf
  rw [List.count, List.countP_map]
  refine List.countP_congr fun b _ => ?_
  simp [← UInt8.toNat_inj]
end Go.Proofs.YtigjingielnaoaaDoor
