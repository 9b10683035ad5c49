/- Package strings: SplitN at a sign, nine parts: walk. -/
import Derived.Test.YtigjingielnaoaaDoorQAN
import Derived.Test.YtigjingielnaoaaDoorQAX
import Derived.Test.YtigjingielnaoaaDoorDosPa
import Derived.Test.YtigjingielnaoaaDoorQAD
import Derived.Test.YtigjingielnaoaaDoorQAA
namespace Go.Proofs.YtigjingielnaoaaDoor
set_option linter.unusedVariables false
set_option linter.unusedSimpArgs false
set_option linter.unusedSectionVars false
open Go.RowKit
set_option linter.unusedVariables false
set_option linter.unusedSimpArgs false

/-- Parts at a sign, so many cuts at most. -/
def splitNC (c : Nat) : Nat → List Nat → List (List Nat)
  | 0, l => [l]
  | k + 1, l => if firstC c l < l.length then l.take (firstC c l) :: splitNC c k (l.drop (firstC c l + 1)) else [l]
set_option maxRecDepth 100000 in
set_option maxHeartbeats 3200000 in
theorem genSplitN_any (s : ByteArray) (c : UInt8) (w : World) (hs : s.size ≤ 1000000) :
    Calls Tryd.prog 56 #[.string s, .string { data := #[c] }, .int .i64 0, .int .i64 9] w fun e w' => (∃ v, e = .returned v ∧ TextsAt w' v (splitNC c.toNat 8 (bytesOf s)) ∧ ∃ k, v.ownBlock = some k ∧ w.heap.size ≤ k) ∧ Upd [] w w' := by
  have HI := Lib.hid (fun (x : ByteArray) (w : World) => indexC_any x c w)
  obtain ⟨P, hP⟩ : ∃ P, splitNC c.toNat 8 (bytesOf s) = P := ⟨_, rfl⟩
  rw [hP]
  have HP := Lib.hid hP
  obtain ⟨n, hn⟩ : ∃ n, min 9 (s.size + 1) = n + 1 := ⟨min 9 (s.size + 1) - 1, by omega⟩
  have hn1 : n ≤ s.size := by omega
  have hn8 : n ≤ 8 := by omega
  have HNN : Hid (n = 8 ∨ n = s.size) := Lib.hid (by omega)
  have hmin : min (9 : Int) ((s.size : Int) + 1) = (n : Int) + 1 := by omega
  clear hP hn
  have hmk := fun w => run_make_row' (P := Tryd.prog) 40 9 (.string ByteArray.empty) 16 Tryd.underlying40 infoStrE rfl .i64 .i64 (n + 1) (by omega) (by omega) (w := w)
  have ec : ((n + 1 : Nat) : Int) = (n : Int) + 1 := by omega
  simp only [ec] at hmk
  clear ec
  have hn0 : ¬ (n : Int) + 1 < 0 := by omega
  go_enter Tryd.func56, Tryd.ntmps56
  go_wp2
  have hB0 : Row (w.alloc (.cells (madeCells #[.string ByteArray.empty] (n + 1)) 9)) 9 1 (.slice (some ⟨w.heap.size, 0, none⟩) (n + 1) (n + 1)) (n + 1) (strsV [] ++ List.replicate (n + 1 - 0) (Value.string .empty)) := by
    have e : madeCells #[.string ByteArray.empty] (n + 1) = (strsV [] ++ List.replicate (n + 1 - 0) (Value.string .empty)).toArray := by
      apply Array.ext
      · simp [madeCells, strsV]
      · intro j h1 h2
        simp [madeCells, strsV, Nat.mod_one]
    rw [e]
    exact Row.new w _ 9 (n + 1) 1 (by unfold maxLen; omega) (by simp [strsV])
  have hU0 : Upd [] w (w.alloc (.cells (madeCells #[.string ByteArray.empty] (n + 1)) 9)) := (Upd.refl [] w).alloc _
  generalize w.alloc (.cells (madeCells #[.string ByteArray.empty] (n + 1)) 9) = w0 at *
  obtain ⟨b0, hb0⟩ : ∃ b0, w.heap.size = b0 := ⟨_, rfl⟩
  rw [hb0] at hB0 ⊢
  have HBS := Lib.hid (show w.heap.size ≤ b0 by omega)
  have HB0 := Lib.hid hB0
  have HU0 := Lib.hid hU0
  clear hb0 hmk hmin hB0 hU0
  go_loopg [0, 10] n (fun g s0 s10 wr => ∃ i, i ≤ n ∧ g = n - i ∧ s10 = .int .i64 (i : Nat) ∧ ∃ (done : List (List Nat)) (rest : ByteArray), s0 = .string rest ∧ done.length = i ∧ rest.size + i ≤ s.size ∧ Hid (done ++ splitNC c.toNat (8 - i) (bytesOf rest) = P) ∧ Hid (Row wr 9 1 (.slice (some ⟨b0, 0, none⟩) (n + 1) (n + 1)) (n + 1) (strsV done ++ List.replicate (n + 1 - i) (Value.string .empty))) ∧ Hid (Upd [] w wr))
  case atStart => exact ⟨0, Nat.zero_le _, rfl, rfl, [], s, rfl, rfl, Nat.le_refl _, HP, HB0, HU0⟩
  case round =>
    clear HB0 HU0 HP
    obtain ⟨i, hin, rfl, rfl, done, rest, rfl, hdl, hrs, HD, HR, HU⟩ := hrel
    have c1 := HR.out.cell i (u := .string .empty) (by
      have hz : (strsV done).length = i := by rw [← hdl]; simp [strsV]
      rw [List.getElem?_append_right (by omega), hz, List.getElem?_replicate, if_pos (by omega)])
    have f1 := HR.out.frz i
    have hfl := firstC_le c.toNat (bytesOf rest)
    have hix : Lib.indexByte rest.data.toList c = if firstC c.toNat (bytesOf rest) < rest.size then (firstC c.toNat (bytesOf rest) : Int) else -1 := by rw [indexByte_c]; rw [show rest.data.toList.length = rest.size by simp]; rfl
    have HSE := Lib.hid (fun f => strOf_take rest f)
    have HDE := Lib.hid (fun f => (bytesOf_extract rest (f + 1) rest.size))
    have hbl := length_bytesOf rest
    rw [hbl] at hfl
    have HI2 := Lib.hid (HI.out rest)
    by_cases hc9 : i < n
    · have hcz : (i : Int) < (n : Int) := by omega
      have hiz : (i : Int) < (n : Int) + 1 := by omega
      by_cases hf : firstC c.toNat (bytesOf rest) < rest.size
      · have e1 : splitNC c.toNat (8 - i) (bytesOf rest) = (bytesOf rest).take (firstC c.toNat (bytesOf rest)) :: splitNC c.toNat (8 - (i + 1)) ((bytesOf rest).drop (firstC c.toNat (bytesOf rest) + 1)) := by
          rw [show 8 - i = (8 - (i + 1)) + 1 by omega, splitNC, if_pos (by rw [hbl]; exact hf)]
        rw [hix, if_pos hf] at HI2
        have HE : Hid (done ++ [(bytesOf rest).take (firstC c.toNat (bytesOf rest))] ++ splitNC c.toNat (8 - (i + 1)) (bytesOf (rest.extract (firstC c.toNat (bytesOf rest) + 1) rest.size)) = P) := Lib.hid (by
          rw [HDE.out, List.take_of_length_le (l := (bytesOf rest).drop _) (by rw [List.length_drop, hbl]; omega), ← HD.out, e1, List.append_assoc]; rfl)
        have HS1 := Lib.hid (HSE.out (firstC c.toNat (bytesOf rest)))
        generalize firstC c.toNat (bytesOf rest) = f at *
        have HST := Lib.hid (split_set done [] ((bytesOf rest).take f) (n + 1) (by omega))
        clear hix hbl e1 HSE HDE
        have hf0 : ¬ (f : Int) < 0 := by omega
        have hf1 : (f : Int) ≤ (rest.size : Int) := by omega
        have hf2 : (f : Int) + 1 ≤ (rest.size : Int) := by omega
        go_wp2_with fail
        refine (HI2.out _).mono ?_
        rintro e w9 ⟨rfl, rfl⟩
        go_wp2
        have HR2 : Hid (Row (wr.setCell ⟨b0, i, none⟩ (.string (rest.extract 0 f))) 9 1 (.slice (some ⟨b0, 0, none⟩) (n + 1) (n + 1)) (n + 1) (strsV (done ++ [(bytesOf rest).take f]) ++ List.replicate (n + 1 - (i + 1)) (Value.string .empty))) := Lib.hid (by
          have := HR.out.set i (.string (rest.extract 0 f))
          rw [HS1.out] at this ⊢
          rw [← hdl] at this ⊢
          rw [HST.out] at this
          exact this)
        go_roundg (n - (i + 1))
        · exact ⟨i + 1, by omega, rfl, by first | rfl | go_num, done ++ [(bytesOf rest).take f], rest.extract (f + 1) rest.size, rfl, by rw [List.length_append, hdl]; rfl, by rw [ByteArray.size_extract]; omega, HE, HR2, Lib.hid (HU.out.setCell (.inr HBS.out) _)⟩
        · omega
      · have e1 : splitNC c.toNat (8 - i) (bytesOf rest) = [bytesOf rest] := by
          rw [show 8 - i = (8 - (i + 1)) + 1 by omega, splitNC, if_neg (by rw [hbl]; exact hf)]
        rw [hix, if_neg hf] at HI2
        have HPE : Hid (P = done ++ [bytesOf rest]) := Lib.hid (by rw [← HD.out, e1])
        have HST := Lib.hid (split_set done [] (bytesOf rest) (n + 1) (by omega))
        have HSB := Lib.hid (strOf_bytesOf rest)
        clear hix hbl e1 HSE HDE hf hfl
        go_wp2_with fail
        refine (HI2.out _).mono ?_
        rintro e w9 ⟨rfl, rfl⟩
        have hib : (i : Int) + 1 ≤ (n : Int) + 1 := by omega
        go_wp2
        go_ret
        refine ⟨⟨_, rfl, ?_, b0, rfl, HBS.out⟩, HU.out.setCell (.inr HBS.out) _⟩
        have hR2 := HR.out.set i (.string rest)
        have hz : P.length = i + 1 := by rw [HPE.out, List.length_append, hdl]; rfl
        have hR3 : Row (wr.setCell ⟨b0, i, none⟩ (.string rest)) 9 1 (.slice (some ⟨b0, 0, none⟩) (n + 1) (n + 1)) (n + 1) (strsV P ++ List.replicate (n + 1 - (i + 1)) (Value.string .empty)) := by
          have h2 := HST.out
          rw [hdl] at h2
          rw [HSB.out] at h2
          rw [HPE.out]
          rw [h2] at hR2
          exact hR2
        refine ⟨some ⟨b0, 0, none⟩, n + 1, by rw [hz]; rfl, by omega, fun j hj => ⟨b0, 0, rfl, ?_⟩⟩
        rw [Nat.zero_add]
        refine hR3.cell j ?_
        rw [List.getElem?_append_left (by simp [strsV]; omega)]
        unfold strsV
        rw [List.getElem?_map, List.getElem?_eq_getElem hj]
        rfl
    · have hcz : ¬ (i : Int) < (n : Int) := by omega
      have hni : i = n := by omega
      have e1 : splitNC c.toNat (8 - i) (bytesOf rest) = [bytesOf rest] := by
        rcases HNN.out with h | h
        · rw [show 8 - i = 0 by omega, splitNC]
        · have h0 : rest.size = 0 := by omega
          cases 8 - i with
          | zero => rw [splitNC]
          | succ k => rw [splitNC, if_neg (by rw [hbl]; omega)]
      have HPE : Hid (P = done ++ [bytesOf rest]) := Lib.hid (by rw [← HD.out, e1])
      have HST := Lib.hid (split_set done [] (bytesOf rest) (n + 1) (by omega))
      have HSB := Lib.hid (strOf_bytesOf rest)
      clear hix hbl e1 HSE HDE HI2 hfl hni
      have hiz : (i : Int) < (n : Int) + 1 := by omega
      have hib : (i : Int) + 1 ≤ (n : Int) + 1 := by omega
      go_wp2
      go_ret
      refine ⟨⟨_, rfl, ?_, b0, rfl, HBS.out⟩, HU.out.setCell (.inr HBS.out) _⟩
      have hR2 := HR.out.set i (.string rest)
      have hz : P.length = i + 1 := by rw [HPE.out, List.length_append, hdl]; rfl
      have hR3 : Row (wr.setCell ⟨b0, i, none⟩ (.string rest)) 9 1 (.slice (some ⟨b0, 0, none⟩) (n + 1) (n + 1)) (n + 1) (strsV P ++ List.replicate (n + 1 - (i + 1)) (Value.string .empty)) := by
        have h2 := HST.out
        rw [hdl] at h2
        rw [HSB.out] at h2
        rw [HPE.out]
        rw [h2] at hR2
        exact hR2
      refine ⟨some ⟨b0, 0, none⟩, n + 1, by rw [hz]; rfl, by omega, fun j hj => ⟨b0, 0, rfl, ?_⟩⟩
      rw [Nat.zero_add]
      refine hR3.cell j ?_
      rw [List.getElem?_append_left (by simp [strsV]; omega)]
      unfold strsV
      rw [List.getElem?_map, List.getElem?_eq_getElem hj]
      rfl
set_option maxRecDepth 100000 in
theorem splitN_any (s : ByteArray) (c : UInt8) (w : World) (hs : s.size ≤ 1000000) :
    Calls Tryd.prog 26 #[.string s, .string { data := #[c] }, .int .i64 9] w fun e w' => (∃ v, e = .returned v ∧ TextsAt w' v (splitNC c.toNat 8 (bytesOf s)) ∧ ∃ k, v.ownBlock = some k ∧ w.heap.size ≤ k) ∧ Upd [] w w' := by
  have HG := Lib.hid (fun w => genSplitN_any s c w hs)
  generalize splitNC c.toNat 8 (bytesOf s) = P at *
  go_enter Tryd.func26, Tryd.ntmps26
  go_wp2_with fail
  refine (HG.out _).mono ?_
  rintro e w1 ⟨⟨v, rfl, hv, hk⟩, hu⟩
  go_wp2
  go_ret
  exact ⟨⟨v, rfl, hv, hk⟩, hu⟩
end Go.Proofs.YtigjingielnaoaaDoor
namespace Go.Proofs.YtigjingielnaoaaDoor
set_option linter.unusedVariables false
set_option linter.unusedSimpArgs false
set_option linter.unusedSectionVars false
open Go.RowKit
set_option linter.unusedVariables false
set_option linter.unusedSimpArgs false

/-- A print's five numbers. -/
structure PrN where
  k : Int
  m : Int
  t : Nat
  s : Int
  c : Nat
def PrN.text (p : PrN) : List Nat := textP p.k p.m p.t p.s p.c
def PrN.val (p : PrN) : Value := printI p.k p.m p.t p.s p.c
def PrN.no : PrN := ⟨0, 0, 0, 0, 0⟩
theorem bits_all : ∀ m : Fin 512, bitsM (permTo m 9) = m := by decide +kernel
theorem modeP_perm (m : Nat) (h : m < 512) : modeP (permTo m 9) = (m, true) := by
  have h1 : bitsM (permTo m 9) = m := bits_all ⟨m, h⟩
  unfold modeP
  rw [if_neg (by rw [permTo_len]; simp), h1, if_pos rfl]
theorem numD_digP : ∀ (k n : Nat), n < 10 ^ k → numD (digP n k) = n
  | 0, n, h => by
    have : n = 0 := by simpa using h
    subst this; rfl
  | k + 1, n, h => by
    unfold digP
    rw [numD_snoc, numD_digP k (n / 10) (by rw [Nat.div_lt_iff_lt_mul (by decide)]; rw [Nat.pow_succ] at h; exact h)]
    omega
theorem timeB_right {t : Nat} (h : timeB t = true) : rightG (yN t) (moN t) (dN t) (hN t) (miN t) (sN t) = true := by
  unfold timeB rightB at h
  have e1 : ((yN t : Nat) : Int) = 1980 + (t : Int) / 33554432 % 128 := by unfold yN; omega
  have e2 : ((moN t : Nat) : Int) = (t : Int) / 2097152 % 16 := by unfold moN; omega
  have e3 : ((dN t : Nat) : Int) = (t : Int) / 65536 % 32 := by unfold dN; omega
  have e4 : ((hN t : Nat) : Int) = (t : Int) / 2048 % 32 := by unfold hN; omega
  have e5 : ((miN t : Nat) : Int) = (t : Int) / 32 % 64 := by unfold miN; omega
  have e6 : ((sN t : Nat) : Int) = 2 * ((t : Int) % 32) := by unfold sN; omega
  unfold rightG daysG
  rw [if_neg (by rw [e1]; omega), e1, e2, e3, e4, e5, e6]
  simp only [Bool.and_eq_true, decide_eq_true_eq] at h ⊢
  omega
theorem partAt_clock (y mo d h mi s : Nat) (b1 : y < 10000) (b2 : mo < 100) (b3 : d < 100) (b4 : h < 100) (b5 : mi < 100) (b6 : s < 100) :
    partAt (clockP y mo d h mi s) 0 4 = y ∧ partAt (clockP y mo d h mi s) 5 7 = mo ∧ partAt (clockP y mo d h mi s) 8 10 = d ∧ partAt (clockP y mo d h mi s) 11 13 = h ∧ partAt (clockP y mo d h mi s) 14 16 = mi ∧ partAt (clockP y mo d h mi s) 17 19 = s := by
  refine ⟨?_, ?_, ?_, ?_, ?_, ?_⟩
  · rw [← numD_digP 4 y (by omega)]; rfl
  · rw [← numD_digP 2 mo (by omega)]; rfl
  · rw [← numD_digP 2 d (by omega)]; rfl
  · rw [← numD_digP 2 h (by omega)]; rfl
  · rw [← numD_digP 2 mi (by omega)]; rfl
  · rw [← numD_digP 2 s (by omega)]; rfl
theorem dosParse_text {t : Nat} (ht : t < 4294967296) (h : timeB t = true) : dosParseP (dosTextP t) = (t, true) := by
  have hx : dosTextP t = clockP (yN t) (moN t) (dN t) (hN t) (miN t) (sN t) := if_pos h
  obtain ⟨c1, c2, c3, c4, c5, c6⟩ := parts_bd t
  obtain ⟨p1, p2, p3, p4, p5, p6⟩ := partAt_clock (yN t) (moN t) (dN t) (hN t) (miN t) (sN t) (by omega) (by omega) (by omega) (by omega) (by omega) (by omega)
  have hr : rightT (dosTextP t) = true := by
    unfold rightT; rw [hx, p1, p2, p3, p4, p5, p6]; exact timeB_right h
  have hT : timeT (dosTextP t) = t := by
    unfold timeT; rw [hx, p1, p2, p3, p4, p5, p6]
    simp only [Int.toNat_natCast]
    unfold ofN yN moN dN hN miN sN
    omega
  unfold dosParseP
  rw [if_neg (by rw [hx, clockP_len]; decide), if_neg (by rw [hr]; decide), hT, if_pos rfl]
theorem foldB_decL : ∀ (k n : Nat), n < 10 ^ k → foldB 10 (decL n) = n
  | 0, n, h => by
    have : n = 0 := by simpa using h
    subst this; rw [decL_small 0 (by decide)]; exact hexIx_hexd 0 (by decide)
  | k + 1, n, h => by
    by_cases hn : n < 10
    · rw [decL_small n hn]
      have := hexIx_hexd n (by omega)
      unfold hexd at this
      rw [if_pos hn] at this
      unfold foldB
      simp only [List.foldl_cons, List.foldl_nil]
      omega
    · rw [decL_big n hn, foldB_snoc, foldB_decL k (n / 10) (by rw [Nat.div_lt_iff_lt_mul (by decide)]; rw [Nat.pow_succ] at h; exact h)]
      have := hexIx_hexd (n % 10) (by omega)
      unfold hexd at this
      rw [if_pos (by omega)] at this
      omega
theorem foldB_hexP : ∀ (k n : Nat), n < 16 ^ k → foldB 16 (hexP n k) = n
  | 0, n, h => by
    have : n = 0 := by simpa using h
    subst this; rfl
  | k + 1, n, h => by
    unfold hexP
    rw [foldB_snoc, foldB_hexP k (n / 16) (by rw [Nat.div_lt_iff_lt_mul (by decide)]; rw [Nat.pow_succ] at h; exact h), hexIx_hexd _ (by omega)]
    omega
theorem numB_hexP (n k : Nat) (hk : k ≤ 10) (h : n < 16 ^ k) : numB 16 (hexP n k) = n := by
  have hl := hexP_len k n
  unfold numB
  rw [List.take_of_length_le (by omega)]
  exact foldB_hexP k n h
theorem permTo_noB (m : Nat) : ∀ i, ∀ x ∈ permTo m i, x ≠ 32
  | 0, x, h => by
    unfold permTo permBase at h
    simp only [List.mem_cons, List.not_mem_nil, or_false] at h
    omega
  | i + 1, x, h => by
    unfold permTo at h
    split at h
    · rcases List.mem_or_eq_of_mem_set h with h | h
      · exact permTo_noB m i x h
      · omega
    · exact permTo_noB m i x h
theorem clock_split (y mo d h mi s : Nat) : clockP y mo d h mi s = (digP y 4 ++ [45] ++ digP mo 2 ++ [45] ++ digP d 2) ++ [32] ++ (digP h 2 ++ [58] ++ digP mi 2 ++ [58] ++ digP s 2) := by
  unfold clockP
  simp only [List.append_assoc]
theorem digP_noB (k n : Nat) : ∀ x ∈ digP n k, x ≠ 32 := fun x h => by have := digP_dig k n x h; omega
end Go.Proofs.YtigjingielnaoaaDoor
namespace Go.Proofs.YtigjingielnaoaaDoor
set_option linter.unusedVariables false
set_option linter.unusedSimpArgs false
set_option linter.unusedSectionVars false
open Go.RowKit
set_option linter.unusedVariables false

def nodeV (k m : Int) (t : Nat) (D : ByteArray) : Value := .agg #[.int .i64 k, .int .i64 m, .int .u32 (t : Nat), .string D]
def nodeErr (k m : Int) (t : Nat) (D : ByteArray) : Nat :=
  if k < 0 ∨ 2 < k then 8 else if k = 0 ∧ (m ≠ 0 ∨ t ≠ 0 ∨ D.toList ≠ []) then 1 else if k = 2 ∧ (D.toList ≠ [] ∨ t ≠ 0) then 1 else if m < 0 ∨ 511 < m then 12 else if k = 1 ∧ timeB t = false then 13 else if 65000 < D.size then 4 else 0
end Go.Proofs.YtigjingielnaoaaDoor
namespace Go.Proofs.YtigjingielnaoaaDoor
set_option linter.unusedVariables false
set_option linter.unusedSimpArgs false
set_option linter.unusedSectionVars false
open Go.RowKit
set_option linter.unusedVariables false
set_option linter.unusedSimpArgs false

theorem dosParseP_lt (l : List Nat) : (dosParseP l).1 < 4294967296 := by
  unfold dosParseP
  by_cases h0 : l.length ≠ 19
  · rw [if_pos h0]; decide
  · rw [if_neg h0]
    by_cases h1 : rightT l = false
    · rw [if_pos h1]; decide
    · rw [if_neg h1]
      have := timeT_lt (l := l) (by simpa using h1)
      by_cases h2 : dosTextP (timeT l) = l
      · rw [if_pos h2]; exact this
      · rw [if_neg h2]; decide
end Go.Proofs.YtigjingielnaoaaDoor
namespace Go.Proofs.YtigjingielnaoaaDoor
set_option linter.unusedVariables false
set_option linter.unusedSimpArgs false
set_option linter.unusedSectionVars false
open Go.RowKit
set_option linter.unusedVariables false
set_option linter.unusedSimpArgs false

/-- Bytes as digits to the base 16. -/
def hexF (l : List Nat) : List Nat := l.flatMap fun b => [hexd (b / 16), hexd (b % 16)]
def hexT (l : List Nat) : List Nat := if l = [] then [45] else hexF l
/-- The byte of two digits. -/
def pairB (x y : Nat) : Nat := (16 * hexIx x + hexIx y) % 256
def bytesN (l : List Nat) : Nat → List Nat
  | 0 => []
  | k + 1 => bytesN l k ++ [pairB (l.getD (2 * k) 0) (l.getD (2 * k + 1) 0)]
def bytesP (l : List Nat) : List Nat := bytesN l (l.length / 2)
theorem hexd_dig (k : Nat) (h : k < 16) : 48 ≤ hexd k ∧ hexd k ≤ 102 := by unfold hexd; split <;> omega
theorem hexF_dig (l : List Nat) (hl : ∀ b ∈ l, b < 256) : ∀ x ∈ hexF l, 48 ≤ x ∧ x ≤ 102 := fun x hx => by
  obtain ⟨b, hb, h⟩ := List.mem_flatMap.1 hx
  have := hl b hb
  simp at h
  rcases h with rfl | rfl
  · exact hexd_dig _ (by omega)
  · exact hexd_dig _ (by omega)
theorem hexT_dig (l : List Nat) (hl : ∀ b ∈ l, b < 256) : ∀ x ∈ hexT l, 45 ≤ x ∧ x ≤ 102 := fun x hx => by
  unfold hexT at hx
  split at hx
  · simp at hx; omega
  · have := hexF_dig l hl x hx; omega
/-- A node's words. -/
structure NodN where
  k : Int
  m : Int
  t : Nat
  D : ByteArray
def NodN.v (n : NodN) : Value := nodeV n.k n.m n.t n.D
def NodN.no : NodN := ⟨0, 0, 0, ⟨#[]⟩⟩
def fileW4 (n : NodN) : List (List Nat) := [[102, 105, 108, 101], permTo n.m.toNat 9, dosTextP n.t, hexT (bytesOf n.D)]
/-- A node's text. -/
def NodN.text (n : NodN) : List Nat :=
  if nodeErr n.k n.m n.t n.D ≠ 0 then [] else if n.k = 0 then [110, 111, 110, 101] else if n.k = 2 then [100, 105, 114, 32] ++ permTo n.m.toNat 9 else joinC 32 (fileW4 n)
/-- The node of words. -/
def NodN.pre (l : List Nat) : NodN :=
  if (splitC 32 l).length = 2 then ⟨2, ((modeP ((splitC 32 l).getD 1 [])).1 : Nat), 0, ⟨#[]⟩⟩
  else if (splitC 32 l).length = 5 then ⟨1, ((modeP ((splitC 32 l).getD 1 [])).1 : Nat), (dosParseP ((splitC 32 l).getD 2 [] ++ [32] ++ (splitC 32 l).getD 3 [])).1, strOf (bytesP ((splitC 32 l).getD 4 []))⟩
  else NodN.no
/-- The words of a file, five of them. -/
def fileW5 (n : NodN) : List (List Nat) := [[102, 105, 108, 101], permTo n.m.toNat 9, digP (yN n.t) 4 ++ [45] ++ digP (moN n.t) 2 ++ [45] ++ digP (dN n.t) 2, digP (hN n.t) 2 ++ [58] ++ digP (miN n.t) 2 ++ [58] ++ digP (sN n.t) 2, hexT (bytesOf n.D)]
theorem fileW5_noB (n : NodN) : ∀ p ∈ fileW5 n, ∀ x ∈ p, x ≠ 32 := by
  intro p hp x hx
  unfold fileW5 at hp
  simp only [List.mem_cons, List.not_mem_nil, or_false] at hp
  rcases hp with rfl | rfl | rfl | rfl | rfl
  · simp only [List.mem_cons, List.not_mem_nil, or_false] at hx; omega
  · exact permTo_noB _ 9 x hx
  · simp only [List.mem_append, List.mem_singleton] at hx
    rcases hx with (((h | h) | h) | h) | h
    · exact digP_noB _ _ x h
    · omega
    · exact digP_noB _ _ x h
    · omega
    · exact digP_noB _ _ x h
  · simp only [List.mem_append, List.mem_singleton] at hx
    rcases hx with (((h | h) | h) | h) | h
    · exact digP_noB _ _ x h
    · omega
    · exact digP_noB _ _ x h
    · omega
    · exact digP_noB _ _ x h
  · have := hexT_dig _ (bytesOf_lt n.D) x hx; omega
end Go.Proofs.YtigjingielnaoaaDoor
