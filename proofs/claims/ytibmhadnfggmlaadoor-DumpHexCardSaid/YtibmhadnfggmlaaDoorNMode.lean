/- Package node: Perm of any number, Mode: walks. -/
import Derived.Test.YtibmhadnfggmlaaDoorPermD
import Derived.Test.YtibmhadnfggmlaaDoorDPar
namespace Go.Proofs.YtibmhadnfggmlaaDoor
set_option linter.unusedVariables false
set_option linter.unusedSimpArgs false
set_option linter.unusedSectionVars false
open Go.RowKit
set_option linter.unusedVariables false
set_option linter.unusedSimpArgs false

/-- The signs of a mode, of any number. -/
def permI (m : Int) : List Nat := if 0 ≤ m ∧ m ≤ 511 then permTo m.toNat 9 else []
set_option maxRecDepth 100000 in
set_option maxHeartbeats 1600000 in
theorem permI_any (m : Int) (w : World) : Calls Tryd.prog 24 #[.int .i64 m] w fun e w' => e = .returned (.string (strOf (permI m))) ∧ Upd [] w w' := by
  by_cases h : 0 ≤ m ∧ m ≤ 511
  · have HV := Lib.hid (show permI m = permTo m.toNat 9 from if_pos h)
    obtain ⟨k, rfl⟩ : ∃ k : Nat, m = k := ⟨m.toNat, by omega⟩
    rw [HV.out]
    exact perm_any k w (by omega)
  · have HV := Lib.hid (show permI m = [] from if_neg h)
    have HM := Lib.hid (mode_any m)
    have hmd : (decide (0 ≤ m) && decide (m ≤ 511)) = false := by
      rw [Bool.and_eq_false_iff, decide_eq_false_iff_not, decide_eq_false_iff_not]; omega
    rw [hmd] at HM
    clear hmd h
    go_enter Tryd.func24, Tryd.ntmps24
    go_wp2_with fail
    refine (HM.out w).mono ?_
    rintro e w1 ⟨rfl, rfl⟩
    go_wp2
    go_ret
    exact ⟨by rw [HV.out]; rfl, Upd.refl _ _⟩

/-- The bits of any signs. -/
def bitsM (l : List Nat) : Nat := l.foldl (fun n c => 2 * n + if c = 45 then 0 else 1) 0
theorem bitsM_snoc (l : List Nat) (c : Nat) : bitsM (l ++ [c]) = 2 * bitsM l + if c = 45 then 0 else 1 := by unfold bitsM; rw [List.foldl_append]; rfl
theorem bitsM_lt : ∀ (n : Nat) (l : List Nat), l.length = n → bitsM l < 2 ^ n
  | 0, l, h => by rw [List.eq_nil_of_length_eq_zero h]; simp [bitsM]
  | n + 1, l, h => by
    rcases List.eq_nil_or_concat l with rfl | ⟨L, c, rfl⟩
    · simp at h
    · rw [List.concat_eq_append] at h ⊢
      have ih := bitsM_lt n L (by simp at h; exact h)
      rw [bitsM_snoc, Nat.pow_succ]
      split <;> omega
/-- The mode of a text. -/
def modeP (l : List Nat) : Nat × Bool := if l.length ≠ 9 then (0, false) else if permTo (bitsM l) 9 = l then (bitsM l, true) else (0, false)
def modeV (l : List Nat) : Value := .tuple #[.int .i64 ((modeP l).1 : Nat), .bool (modeP l).2]
theorem or_i64 (a b : Nat) (ha : a < 9223372036854775808) (hb : b < 9223372036854775808) : bits .or .i64 (a : Int) (b : Int) = ((a ||| b : Nat) : Int) := by
  show IntKind.i64.wrap ((BitVec.ofInt 64 (a : Int) ||| BitVec.ofInt 64 (b : Int)).toNat : Int) = _
  rw [BitVec.toNat_or, ofInt_nat 64 a (by omega), ofInt_nat 64 b (by omega)]
  have := Nat.or_lt_two_pow (n := 63) ha hb
  exact IntWalk.i64_in _ (by omega)
theorem permTo_lt (m : Nat) : ∀ i, ∀ x ∈ permTo m i, x < 256
  | 0, x, h => by simp [permTo, permBase] at h; omega
  | i + 1, x, h => by
    unfold permTo at h
    split at h
    · rcases List.mem_or_eq_of_mem_set h with h | rfl
      · exact permTo_lt m i x h
      · omega
    · exact permTo_lt m i x h
set_option maxRecDepth 100000 in
set_option maxHeartbeats 3200000 in
theorem mode14_any (S : ByteArray) (w : World) (hs : S.size ≤ 9223372036854775807) : Calls Tryd.prog 20 #[.string S] w fun e w' => e = .returned (modeV (bytesOf S)) ∧ Upd [] w w' := by
  have hbl := length_bytesOf S
  by_cases h9 : S.size = 9
  rotate_left
  · have HV : Hid (modeV (bytesOf S) = .tuple #[.int .i64 0, .bool false]) := Lib.hid (by unfold modeV modeP; rw [if_pos (by omega)]; rfl)
    have t1 : ((S.size : Int) != 9) = true := by rw [bne_iff_ne]; omega
    clear hbl h9
    go_enter Tryd.func20, Tryd.ntmps20
    go_wp2
    go_ret2
    exact ⟨by rw [HV.out]; rfl, Upd.refl _ _⟩
  · have t1 : ((S.size : Int) != 9) = false := by rw [bne_eq_false_iff_eq]; omega
    have HV : Hid (modeV (bytesOf S) = if permTo (bitsM (bytesOf S)) 9 = bytesOf S then .tuple #[.int .i64 (bitsM (bytesOf S) : Nat), .bool true] else .tuple #[.int .i64 0, .bool false]) := Lib.hid (by
      unfold modeV modeP
      rw [if_neg (by omega)]
      split <;> rfl)
    have HZ := Lib.hid h9
    have HP := Lib.hid (fun k w h => perm_any k w h)
    clear hbl h9
    go_enter Tryd.func20, Tryd.ntmps20
    go_wp2
    go_loopg [2, 8] 9 (fun gg s2 s8 wr => ∃ i, i ≤ 9 ∧ gg = 9 - i ∧ s8 = .int .i64 (i : Nat) ∧ (∃ m : Nat, s2 = .int .i64 (m : Nat) ∧ Hid (m = bitsM ((bytesOf S).take i)) ∧ m < 512) ∧ wr = w)
    case atStart => exact ⟨0, Nat.zero_le _, rfl, rfl, ⟨0, rfl, Lib.hid rfl, by omega⟩, rfl⟩
    case round =>
      obtain ⟨i, hin, rfl, rfl, ⟨m, rfl, HM, hm⟩, rfl⟩ := hrel
      by_cases hc : i < 9
      · have hcz : (i : Int) < 9 := by omega
        have hz := HZ.out
        have hci : i < S.size := by omega
        have hil : i < (bytesOf S).length := by rw [length_bytesOf]; exact hci
        have HG : Hid (bitsM ((bytesOf S).take (i + 1)) = 2 * m + if S[i].toNat = 45 then 0 else 1) := Lib.hid (by
          rw [List.take_succ_eq_append_getElem hil, bitsM_snoc, ← HM.out, bytesOf_get S i hci])
        have hlt : bitsM ((bytesOf S).take (i + 1)) < 512 := by
          have := bitsM_lt (i + 1) ((bytesOf S).take (i + 1)) (by rw [List.length_take]; omega)
          have h2 : 2 ^ (i + 1) ≤ 2 ^ 9 := Nat.pow_le_pow_right (by omega) (by omega)
          omega
        have hbl : S[i].toNat < 256 := S[i].toNat_lt
        have hor : bits .or .i64 ((m : Int) * 2) 1 = ((2 * m + 1 : Nat) : Int) := by
          have h := or_i64 (2 * m) 1 (by omega) (by omega)
          have e : 2 * m ||| 1 = 2 * m + 1 := or_add m 1 1 (by omega)
          rw [e] at h
          rw [show (m : Int) * 2 = ((2 * m : Nat) : Int) by omega]
          exact h
        rw [HG.out] at hlt
        generalize hcc : S[i].toNat = c at *
        by_cases h45 : c = 45
        · have t2 : ((c : Int) != 45) = false := by rw [bne_eq_false_iff_eq]; omega
          have HG2 : Hid (bitsM ((bytesOf S).take (i + 1)) = 2 * m) := Lib.hid (by rw [HG.out, if_pos h45]; rfl)
          clear HG HM h45 hlt hil hor
          go_wp2
          go_roundg (9 - (i + 1))
          · exact ⟨i + 1, by omega, rfl, by first | rfl | go_num, ⟨2 * m, by first | rfl | go_num, Lib.hid HG2.out.symm, by have := bitsM_lt (i + 1) ((bytesOf S).take (i + 1)) (by rw [List.length_take, length_bytesOf]; omega); have h2 : 2 ^ (i + 1) ≤ 2 ^ 9 := Nat.pow_le_pow_right (by omega) (by omega); have := HG2.out; omega⟩, rfl⟩
          · omega
        · have t2 : ((c : Int) != 45) = true := by rw [bne_iff_ne]; omega
          have HG2 : Hid (bitsM ((bytesOf S).take (i + 1)) = 2 * m + 1) := Lib.hid (by rw [HG.out, if_neg h45])
          clear HG HM h45 hlt hil
          go_wp2
          go_roundg (9 - (i + 1))
          · exact ⟨i + 1, by omega, rfl, by first | rfl | go_num, ⟨2 * m + 1, by first | rfl | go_num, Lib.hid HG2.out.symm, by have := bitsM_lt (i + 1) ((bytesOf S).take (i + 1)) (by rw [List.length_take, length_bytesOf]; omega); have h2 : 2 ^ (i + 1) ≤ 2 ^ 9 := Nat.pow_le_pow_right (by omega) (by omega); have := HG2.out; omega⟩, rfl⟩
          · omega
      · have hcz : ¬ (i : Int) < 9 := by omega
        have hix : i = 9 := by omega
        subst hix
        have hT : (bytesOf S).take 9 = bytesOf S := List.take_of_length_le (by rw [length_bytesOf]; have := HZ.out; omega)
        rw [hT] at HM
        clear hT
        rw [← HM.out] at HV
        have hne := strOf_eqS (permTo m 9) S (permTo_lt m 9)
        by_cases hq : permTo m 9 = bytesOf S
        · rw [decide_eq_true hq] at hne
          rw [if_pos hq] at HV
          clear hq
          go_wp2_with fail
          refine (HP.out m _ hm).mono ?_
          rintro e w1 ⟨rfl, hu1⟩
          go_wp2
          go_ret2
          exact ⟨by rw [HV.out]; rfl, hu1⟩
        · rw [decide_eq_false hq] at hne
          rw [if_neg hq] at HV
          clear hq
          go_wp2_with fail
          refine (HP.out m _ hm).mono ?_
          rintro e w1 ⟨rfl, hu1⟩
          go_wp2
          go_ret2
          exact ⟨by rw [HV.out]; rfl, hu1⟩
end Go.Proofs.YtibmhadnfggmlaaDoor
