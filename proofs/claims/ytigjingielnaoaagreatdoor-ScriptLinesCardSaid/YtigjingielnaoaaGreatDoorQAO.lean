/- Packages node and swingleref14: Text: walks. -/
import Derived.Test.YtigjingielnaoaaGreatDoorQAM
import Derived.Test.YtigjingielnaoaaGreatDoorQAL
import Derived.Test.YtigjingielnaoaaGreatDoorDTxu
import Derived.Test.YtigjingielnaoaaGreatDoorQAJ
import Derived.Test.YtigjingielnaoaaGreatDoorQAK
import Derived.Test.YtigjingielnaoaaGreatDoorQAD
import Derived.Test.YtigjingielnaoaaGreatDoorQAA
namespace Go.Proofs.YtigjingielnaoaaGreatDoor
set_option linter.unusedVariables false
set_option linter.unusedSimpArgs false
set_option linter.unusedSectionVars false
open Go.RowKit
set_option linter.unusedVariables false
set_option linter.unusedSimpArgs false

/-- The words of a file's print. -/
def fileW (m t s c : Nat) : List (List Nat) := [[102, 105, 108, 101], permTo m 9, dosTextP t, decL s, hexP c 8]
/-- The text of a print. -/
def textP (k m : Int) (t : Nat) (s : Int) (c : Nat) : List Nat :=
  if fineB k m t s c = false then [] else if k = 0 then [110, 111, 110, 101] else if k = 2 then [100, 105, 114, 32] ++ permTo m.toNat 9 else joinC 32 (fileW m.toNat t s.toNat c)
theorem textsAt_new (w : World) (ps : List (List Nat)) (T : TypeId) : TextsAt (w.alloc (.cells (ps.map fun p => Value.string (strOf p)).toArray T)) (.slice (some ⟨w.heap.size, 0, none⟩) ps.length ps.length) ps := by
  have hB := Blk.new w (ps.map fun p => Value.string (strOf p)) T
  exact ⟨_, _, rfl, Nat.le_refl _, fun i hi => ⟨_, 0, rfl, by rw [Nat.zero_add]; exact hB.cell i (by rw [List.getElem?_map, List.getElem?_eq_getElem hi]; rfl)⟩⟩
theorem clockP_len (y mo d h mi s : Nat) : (clockP y mo d h mi s).length = 19 := by
  unfold clockP
  simp only [List.length_append, digP_len, List.length_cons, List.length_nil]
theorem dosTextP_len (t : Nat) : (dosTextP t).length ≤ 19 := by
  unfold dosTextP
  split
  · rw [clockP_len]; omega
  · simp
end Go.Proofs.YtigjingielnaoaaGreatDoor
namespace Go.Proofs.YtigjingielnaoaaGreatDoor
set_option linter.unusedVariables false
set_option linter.unusedSimpArgs false
set_option linter.unusedSectionVars false
open Go.RowKit
set_option linter.unusedVariables false
set_option linter.unusedSimpArgs false

/-- A print's five numbers. -/
structure PrN where
  k : Int
  m : Int
  t : Nat
  s : Int
  c : Nat
def PrN.text (p : PrN) : List Nat := textP p.k p.m p.t p.s p.c
def PrN.val (p : PrN) : Value := printI p.k p.m p.t p.s p.c
def PrN.no : PrN := ⟨0, 0, 0, 0, 0⟩
theorem bits_all : ∀ m : Fin 512, bitsM (permTo m 9) = m := by decide +kernel
theorem modeP_perm (m : Nat) (h : m < 512) : modeP (permTo m 9) = (m, true) := by
  have h1 : bitsM (permTo m 9) = m := bits_all ⟨m, h⟩
  unfold modeP
  rw [if_neg (by rw [permTo_len]; simp), h1, if_pos rfl]
theorem modeP_true {l : List Nat} (h : (modeP l).2 = true) : (modeP l).1 < 512 ∧ permTo (modeP l).1 9 = l := by
  unfold modeP at h ⊢
  by_cases h0 : l.length ≠ 9
  · rw [if_pos h0] at h; cases h
  · rw [if_neg h0] at h ⊢
    by_cases h1 : permTo (bitsM l) 9 = l
    · rw [if_pos h1]; exact ⟨bitsM_lt 9 l (by omega), h1⟩
    · rw [if_neg h1] at h; cases h
theorem modeP_false {l : List Nat} (h : (modeP l).2 = false) : (modeP l).1 = 0 := by
  unfold modeP at h ⊢
  by_cases h0 : l.length ≠ 9
  · rw [if_pos h0]
  · rw [if_neg h0] at h ⊢
    by_cases h1 : permTo (bitsM l) 9 = l
    · rw [if_pos h1] at h; cases h
    · rw [if_neg h1]
theorem modeP_lt (l : List Nat) : (modeP l).1 < 512 := by
  cases h : (modeP l).2 with
  | true => exact (modeP_true h).1
  | false => rw [modeP_false h]; decide
theorem numD_digP : ∀ (k n : Nat), n < 10 ^ k → numD (digP n k) = n
  | 0, n, h => by
    have : n = 0 := by simpa using h
    subst this; rfl
  | k + 1, n, h => by
    unfold digP
    rw [numD_snoc, numD_digP k (n / 10) (by rw [Nat.div_lt_iff_lt_mul (by decide)]; rw [Nat.pow_succ] at h; exact h)]
    omega
theorem timeB_right {t : Nat} (h : timeB t = true) : rightG (yN t) (moN t) (dN t) (hN t) (miN t) (sN t) = true := by
  unfold timeB rightB at h
  have e1 : ((yN t : Nat) : Int) = 1980 + (t : Int) / 33554432 % 128 := by unfold yN; omega
  have e2 : ((moN t : Nat) : Int) = (t : Int) / 2097152 % 16 := by unfold moN; omega
  have e3 : ((dN t : Nat) : Int) = (t : Int) / 65536 % 32 := by unfold dN; omega
  have e4 : ((hN t : Nat) : Int) = (t : Int) / 2048 % 32 := by unfold hN; omega
  have e5 : ((miN t : Nat) : Int) = (t : Int) / 32 % 64 := by unfold miN; omega
  have e6 : ((sN t : Nat) : Int) = 2 * ((t : Int) % 32) := by unfold sN; omega
  unfold rightG daysG
  rw [if_neg (by rw [e1]; omega), e1, e2, e3, e4, e5, e6]
  simp only [Bool.and_eq_true, decide_eq_true_eq] at h ⊢
  omega
theorem partAt_clock (y mo d h mi s : Nat) (b1 : y < 10000) (b2 : mo < 100) (b3 : d < 100) (b4 : h < 100) (b5 : mi < 100) (b6 : s < 100) :
    partAt (clockP y mo d h mi s) 0 4 = y ∧ partAt (clockP y mo d h mi s) 5 7 = mo ∧ partAt (clockP y mo d h mi s) 8 10 = d ∧ partAt (clockP y mo d h mi s) 11 13 = h ∧ partAt (clockP y mo d h mi s) 14 16 = mi ∧ partAt (clockP y mo d h mi s) 17 19 = s := by
  refine ⟨?_, ?_, ?_, ?_, ?_, ?_⟩
  · rw [← numD_digP 4 y (by omega)]; rfl
  · rw [← numD_digP 2 mo (by omega)]; rfl
  · rw [← numD_digP 2 d (by omega)]; rfl
  · rw [← numD_digP 2 h (by omega)]; rfl
  · rw [← numD_digP 2 mi (by omega)]; rfl
  · rw [← numD_digP 2 s (by omega)]; rfl
theorem dosParse_text {t : Nat} (ht : t < 4294967296) (h : timeB t = true) : dosParseP (dosTextP t) = (t, true) := by
  have hx : dosTextP t = clockP (yN t) (moN t) (dN t) (hN t) (miN t) (sN t) := if_pos h
  obtain ⟨c1, c2, c3, c4, c5, c6⟩ := parts_bd t
  obtain ⟨p1, p2, p3, p4, p5, p6⟩ := partAt_clock (yN t) (moN t) (dN t) (hN t) (miN t) (sN t) (by omega) (by omega) (by omega) (by omega) (by omega) (by omega)
  have hr : rightT (dosTextP t) = true := by
    unfold rightT; rw [hx, p1, p2, p3, p4, p5, p6]; exact timeB_right h
  have hT : timeT (dosTextP t) = t := by
    unfold timeT; rw [hx, p1, p2, p3, p4, p5, p6]
    simp only [Int.toNat_natCast]
    unfold ofN yN moN dN hN miN sN
    omega
  unfold dosParseP
  rw [if_neg (by rw [hx, clockP_len]; decide), if_neg (by rw [hr]; decide), hT, if_pos rfl]
theorem permTo_noB (m : Nat) : ∀ i, ∀ x ∈ permTo m i, x ≠ 32
  | 0, x, h => by
    unfold permTo permBase at h
    simp only [List.mem_cons, List.not_mem_nil, or_false] at h
    omega
  | i + 1, x, h => by
    unfold permTo at h
    split at h
    · rcases List.mem_or_eq_of_mem_set h with h | h
      · exact permTo_noB m i x h
      · omega
    · exact permTo_noB m i x h
theorem clock_split (y mo d h mi s : Nat) : clockP y mo d h mi s = (digP y 4 ++ [45] ++ digP mo 2 ++ [45] ++ digP d 2) ++ [32] ++ (digP h 2 ++ [58] ++ digP mi 2 ++ [58] ++ digP s 2) := by
  unfold clockP
  simp only [List.append_assoc]
theorem digP_noB (k n : Nat) : ∀ x ∈ digP n k, x ≠ 32 := fun x h => by have := digP_dig k n x h; omega
end Go.Proofs.YtigjingielnaoaaGreatDoor
namespace Go.Proofs.YtigjingielnaoaaGreatDoor
set_option linter.unusedVariables false
set_option linter.unusedSimpArgs false
set_option linter.unusedSectionVars false
open Go.RowKit
set_option linter.unusedVariables false

def nodeV (k m : Int) (t : Nat) (D : ByteArray) : Value := .agg #[.int .i64 k, .int .i64 m, .int .u32 (t : Nat), .string D]
def nodeErr (k m : Int) (t : Nat) (D : ByteArray) : Nat :=
  if k < 0 ∨ 2 < k then 8 else if k = 0 ∧ (m ≠ 0 ∨ t ≠ 0 ∨ D.toList ≠ []) then 1 else if k = 2 ∧ (D.toList ≠ [] ∨ t ≠ 0) then 1 else if m < 0 ∨ 511 < m then 12 else if k = 1 ∧ timeB t = false then 13 else if 65000 < D.size then 4 else 0
set_option maxRecDepth 100000 in
set_option maxHeartbeats 3200000 in
theorem nodeRight_any (k m : Int) (t : Nat) (D : ByteArray) (w : World) (ht : t < 4294967296) (hD : D.size ≤ 9223372036854775807) : Calls Tryz.prog 64 #[nodeV k m t D] w fun e w' => e = .returned (.int .i64 (nodeErr k m t D : Nat)) ∧ Upd [] w w' := by
  have HT := Lib.hid (fun w' => dosRight_any t w' ht)
  have HM := Lib.hid (fun m w' => mode_any m w')
  unfold nodeV
  go_enter Tryz.func64, Tryz.ntmps64
  go_wp2_with (first | (go_at_call 107; refine (HT.out _).mono ?_; rintro e w2 ⟨rfl, hU2⟩; have c3 := ((Blk.new w _ _).upd hU2 (by simp)).cell 3 rfl) | (go_at_call 106; refine (HM.out _ _).mono ?_; rintro e w2 ⟨rfl, rfl⟩))
  all_goals go_returns
  all_goals (refine ⟨congrArg (fun z => Ending.returned (.int .i64 z)) ?_, by first | exact (Upd.refl _ _).alloc _ | exact ((Upd.refl _ _).alloc _).then (by assumption)⟩)
  all_goals (clear HT HM; unfold nodeErr; (repeat' split) <;> first | rfl | (exfalso; omega) | (exfalso; simp_all; done) | (exfalso; simp_all; omega))
end Go.Proofs.YtigjingielnaoaaGreatDoor
namespace Go.Proofs.YtigjingielnaoaaGreatDoor
set_option linter.unusedVariables false
set_option linter.unusedSimpArgs false
set_option linter.unusedSectionVars false
open Go.RowKit
set_option linter.unusedVariables false
set_option linter.unusedSimpArgs false

theorem dosParseP_lt (l : List Nat) : (dosParseP l).1 < 4294967296 := by
  unfold dosParseP
  by_cases h0 : l.length ≠ 19
  · rw [if_pos h0]; decide
  · rw [if_neg h0]
    by_cases h1 : rightT l = false
    · rw [if_pos h1]; decide
    · rw [if_neg h1]
      have := timeT_lt (l := l) (by simpa using h1)
      by_cases h2 : dosTextP (timeT l) = l
      · rw [if_pos h2]; exact this
      · rw [if_neg h2]; decide
end Go.Proofs.YtigjingielnaoaaGreatDoor
namespace Go.Proofs.YtigjingielnaoaaGreatDoor
set_option linter.unusedVariables false
set_option linter.unusedSimpArgs false
set_option linter.unusedSectionVars false
open Go.RowKit
set_option linter.unusedVariables false
set_option linter.unusedSimpArgs false

/-- Bytes as digits to the base 16. -/
def hexF (l : List Nat) : List Nat := l.flatMap fun b => [hexd (b / 16), hexd (b % 16)]
theorem hexF_snoc (l : List Nat) (b : Nat) : hexF (l ++ [b]) = hexF l ++ [hexd (b / 16), hexd (b % 16)] := by simp [hexF]
theorem hexF_len : ∀ l : List Nat, (hexF l).length = 2 * l.length
  | [] => rfl
  | b :: l => by
    have e : hexF (b :: l) = [hexd (b / 16), hexd (b % 16)] ++ hexF l := rfl
    have e2 : ([hexd (b / 16), hexd (b % 16)] : List Nat).length = 2 := rfl
    have e3 : (b :: l).length = l.length + 1 := rfl
    rw [e, List.length_append, hexF_len l, e2, e3]
    omega
def hexT (l : List Nat) : List Nat := if l = [] then [45] else hexF l
/-- The byte of two digits. -/
def pairB (x y : Nat) : Nat := (16 * hexIx x + hexIx y) % 256
def bytesN (l : List Nat) : Nat → List Nat
  | 0 => []
  | k + 1 => bytesN l k ++ [pairB (l.getD (2 * k) 0) (l.getD (2 * k + 1) 0)]
def bytesP (l : List Nat) : List Nat := bytesN l (l.length / 2)
theorem bytesN_len (l : List Nat) : ∀ k, (bytesN l k).length = k
  | 0 => rfl
  | k + 1 => by unfold bytesN; rw [List.length_append, bytesN_len l k]; rfl
theorem pairB_hexd (b : Nat) (h : b < 256) : pairB (hexd (b / 16)) (hexd (b % 16)) = b := by
  unfold pairB
  rw [hexIx_hexd _ (by omega), hexIx_hexd _ (by omega)]
  omega
theorem bytesN_hexF (D : List Nat) (hD : ∀ b ∈ D, b < 256) : ∀ k, k ≤ D.length → bytesN (hexF D) k = D.take k
  | 0, _ => rfl
  | k + 1, hk => by
    have hlt : k < D.length := by omega
    have e1 : ∀ (l : List Nat) (i : Nat) (hi : i < l.length), (hexF l).getD (2 * i) 0 = hexd (l[i] / 16) ∧ (hexF l).getD (2 * i + 1) 0 = hexd (l[i] % 16) := by
      intro l
      induction l with
      | nil => intro i hi; simp at hi
      | cons b l ih =>
        intro i hi
        cases i with
        | zero => exact ⟨rfl, rfl⟩
        | succ i =>
          have := ih i (by simpa using hi)
          exact ⟨by rw [show 2 * (i + 1) = 2 * i + 2 by omega]; exact this.1, by rw [show 2 * (i + 1) + 1 = 2 * i + 1 + 2 by omega]; exact this.2⟩
    obtain ⟨h1, h2⟩ := e1 D k hlt
    unfold bytesN
    rw [bytesN_hexF D hD k (by omega), h1, h2, pairB_hexd _ (hD _ (List.getElem_mem hlt)), List.take_succ_eq_append_getElem hlt]
theorem bytesP_hexT (D : List Nat) (hD : ∀ b ∈ D, b < 256) : bytesP (hexT D) = D := by
  unfold bytesP hexT
  by_cases h : D = []
  · rw [if_pos h, h]; rfl
  · rw [if_neg h, hexF_len, show 2 * D.length / 2 = D.length by omega, bytesN_hexF D hD _ (Nat.le_refl _), List.take_length]
theorem hexd_dig (k : Nat) (h : k < 16) : 48 ≤ hexd k ∧ hexd k ≤ 102 := by unfold hexd; split <;> omega
theorem hexF_dig (l : List Nat) (hl : ∀ b ∈ l, b < 256) : ∀ x ∈ hexF l, 48 ≤ x ∧ x ≤ 102 := fun x hx => by
  obtain ⟨b, hb, h⟩ := List.mem_flatMap.1 hx
  have := hl b hb
  simp at h
  rcases h with rfl | rfl
  · exact hexd_dig _ (by omega)
  · exact hexd_dig _ (by omega)
theorem hexT_dig (l : List Nat) (hl : ∀ b ∈ l, b < 256) : ∀ x ∈ hexT l, 45 ≤ x ∧ x ≤ 102 := fun x hx => by
  unfold hexT at hx
  split at hx
  · simp at hx; omega
  · have := hexF_dig l hl x hx; omega
/-- A node's words. -/
structure NodN where
  k : Int
  m : Int
  t : Nat
  D : ByteArray
def NodN.v (n : NodN) : Value := nodeV n.k n.m n.t n.D
def NodN.no : NodN := ⟨0, 0, 0, ⟨#[]⟩⟩
def fileW4 (n : NodN) : List (List Nat) := [[102, 105, 108, 101], permTo n.m.toNat 9, dosTextP n.t, hexT (bytesOf n.D)]
/-- A node's text. -/
def NodN.text (n : NodN) : List Nat :=
  if nodeErr n.k n.m n.t n.D ≠ 0 then [] else if n.k = 0 then [110, 111, 110, 101] else if n.k = 2 then [100, 105, 114, 32] ++ permTo n.m.toNat 9 else joinC 32 (fileW4 n)
/-- The node of words. -/
def NodN.pre (l : List Nat) : NodN :=
  if (splitC 32 l).length = 2 then ⟨2, ((modeP ((splitC 32 l).getD 1 [])).1 : Nat), 0, ⟨#[]⟩⟩
  else if (splitC 32 l).length = 5 then ⟨1, ((modeP ((splitC 32 l).getD 1 [])).1 : Nat), (dosParseP ((splitC 32 l).getD 2 [] ++ [32] ++ (splitC 32 l).getD 3 [])).1, strOf (bytesP ((splitC 32 l).getD 4 []))⟩
  else NodN.no
def nodOk (l : List Nat) : Bool := decide (l ≠ [] ∧ (NodN.pre l).text = l)
def nodN (l : List Nat) : NodN := if nodOk l = true then NodN.pre l else NodN.no
theorem nodeErr_zero {k m : Int} {t : Nat} {D : ByteArray} (h : nodeErr k m t D = 0) : (k = 0 ∧ m = 0 ∧ t = 0 ∧ D.toList = []) ∨ (k = 2 ∧ 0 ≤ m ∧ m ≤ 511 ∧ t = 0 ∧ D.toList = []) ∨ (k = 1 ∧ 0 ≤ m ∧ m ≤ 511 ∧ timeB t = true ∧ D.size ≤ 65000) := by
  unfold nodeErr at h
  by_cases h1 : k < 0 ∨ 2 < k
  · rw [if_pos h1] at h; cases h
  rw [if_neg h1] at h
  by_cases h2 : k = 0 ∧ (m ≠ 0 ∨ t ≠ 0 ∨ D.toList ≠ [])
  · rw [if_pos h2] at h; cases h
  rw [if_neg h2] at h
  by_cases h3 : k = 2 ∧ (D.toList ≠ [] ∨ t ≠ 0)
  · rw [if_pos h3] at h; cases h
  rw [if_neg h3] at h
  by_cases h4 : m < 0 ∨ 511 < m
  · rw [if_pos h4] at h; cases h
  rw [if_neg h4] at h
  by_cases h5 : k = 1 ∧ timeB t = false
  · rw [if_pos h5] at h; cases h
  rw [if_neg h5] at h
  by_cases h6 : 65000 < D.size
  · rw [if_pos h6] at h; cases h
  obtain rfl | rfl | rfl : k = 0 ∨ k = 1 ∨ k = 2 := by omega
  · left
    simp only [true_and, not_or, Classical.not_not] at h2
    exact ⟨rfl, h2⟩
  · right; right
    exact ⟨rfl, by omega, by omega, by cases hb : timeB t with | true => rfl | false => exact absurd ⟨rfl, hb⟩ h5, by omega⟩
  · right; left
    simp only [true_and, not_or, Classical.not_not] at h3
    exact ⟨rfl, by omega, by omega, h3.2, h3.1⟩
theorem empty_of {D : ByteArray} (h : D.toList = []) : D = ⟨#[]⟩ := by
  rw [ByteArray.toList_eq] at h
  have h2 : bytesOf D = [] := by unfold bytesOf; rw [h]; rfl
  rw [← strOf_bytesOf D, h2]
  rfl
theorem nodeErr_bad {k m : Int} {t : Nat} {D : ByteArray} (h : nodeErr k m t D ≠ 0) : (NodN.mk k m t D).text = [] := by unfold NodN.text; rw [if_pos h]
/-- The words of a file, five of them. -/
def fileW5 (n : NodN) : List (List Nat) := [[102, 105, 108, 101], permTo n.m.toNat 9, digP (yN n.t) 4 ++ [45] ++ digP (moN n.t) 2 ++ [45] ++ digP (dN n.t) 2, digP (hN n.t) 2 ++ [58] ++ digP (miN n.t) 2 ++ [58] ++ digP (sN n.t) 2, hexT (bytesOf n.D)]
theorem joinC5n (a b c d e : List Nat) : joinC 32 [a, b, c, d, e] = joinC 32 [a, b, c ++ [32] ++ d, e] := by simp [joinC]
theorem fileW_five (n : NodN) (h : timeB n.t = true) : joinC 32 (fileW4 n) = joinC 32 (fileW5 n) := by
  have hx : dosTextP n.t = clockP (yN n.t) (moN n.t) (dN n.t) (hN n.t) (miN n.t) (sN n.t) := if_pos h
  unfold fileW4 fileW5
  rw [joinC5n, hx, clock_split]
theorem fileW5_noB (n : NodN) : ∀ p ∈ fileW5 n, ∀ x ∈ p, x ≠ 32 := by
  intro p hp x hx
  unfold fileW5 at hp
  simp only [List.mem_cons, List.not_mem_nil, or_false] at hp
  rcases hp with rfl | rfl | rfl | rfl | rfl
  · simp only [List.mem_cons, List.not_mem_nil, or_false] at hx; omega
  · exact permTo_noB _ 9 x hx
  · simp only [List.mem_append, List.mem_singleton] at hx
    rcases hx with (((h | h) | h) | h) | h
    · exact digP_noB _ _ x h
    · omega
    · exact digP_noB _ _ x h
    · omega
    · exact digP_noB _ _ x h
  · simp only [List.mem_append, List.mem_singleton] at hx
    rcases hx with (((h | h) | h) | h) | h
    · exact digP_noB _ _ x h
    · omega
    · exact digP_noB _ _ x h
    · omega
    · exact digP_noB _ _ x h
  · have := hexT_dig _ (bytesOf_lt n.D) x hx; omega
/-- The text of a node that may be tells it. -/
theorem nod_text {n : NodN} (ht : n.t < 4294967296) (h : nodeErr n.k n.m n.t n.D = 0) : NodN.pre n.text = n ∧ n.text ≠ [] := by
  obtain ⟨k, m, t, D⟩ := n
  dsimp only at ht h
  have hne : ¬ nodeErr k m t D ≠ 0 := by rw [h]; decide
  rcases nodeErr_zero h with ⟨rfl, rfl, rfl, hD⟩ | ⟨rfl, hm0, hm1, rfl, hD⟩ | ⟨rfl, hm0, hm1, hT, hs⟩
  · have e : (NodN.mk 0 0 0 D).text = [110, 111, 110, 101] := by
      unfold NodN.text; rw [if_neg hne, if_pos rfl]
    have e2 : splitC 32 [110, 111, 110, 101] = [[110, 111, 110, 101]] := splitC_noc 32 _ (by
      intro x hx; simp only [List.mem_cons, List.not_mem_nil, or_false] at hx; omega)
    rw [e, empty_of hD]
    refine ⟨?_, by simp⟩
    unfold NodN.pre
    rw [e2, if_neg (by decide), if_neg (by decide)]
    rfl
  · have e : (NodN.mk 2 m 0 D).text = [100, 105, 114] ++ 32 :: permTo m.toNat 9 := by
      show (if nodeErr 2 m 0 D ≠ 0 then [] else if (2 : Int) = 0 then [110, 111, 110, 101] else if (2 : Int) = 2 then [100, 105, 114, 32] ++ permTo m.toNat 9 else joinC 32 (fileW4 ⟨2, m, 0, D⟩)) = _
      rw [if_neg hne, if_neg (by decide), if_pos rfl]; rfl
    have e2 : splitC 32 ([100, 105, 114] ++ 32 :: permTo m.toNat 9) = [[100, 105, 114], permTo m.toNat 9] := by
      rw [splitC_cat 32 _ _ (by intro x hx; simp only [List.mem_cons, List.not_mem_nil, or_false] at hx; omega), splitC_noc 32 _ (permTo_noB _ 9)]
    rw [e, empty_of hD]
    refine ⟨?_, by simp⟩
    unfold NodN.pre
    rw [e2, if_pos (show [[100, 105, 114], permTo m.toNat 9].length = 2 from rfl)]
    have e3 : (modeP (List.getD [[100, 105, 114], permTo m.toNat 9] 1 [])).1 = m.toNat := by
      show (modeP (permTo m.toNat 9)).1 = _
      rw [modeP_perm m.toNat (by omega)]
    rw [e3]
    congr 1
    omega
  · have e : (NodN.mk 1 m t D).text = joinC 32 (fileW5 ⟨1, m, t, D⟩) := by
      show (if nodeErr 1 m t D ≠ 0 then [] else if (1 : Int) = 0 then [110, 111, 110, 101] else if (1 : Int) = 2 then [100, 105, 114, 32] ++ permTo m.toNat 9 else joinC 32 (fileW4 ⟨1, m, t, D⟩)) = _
      rw [if_neg hne, if_neg (by decide), if_neg (by decide), fileW_five ⟨1, m, t, D⟩ hT]
    have e2 : splitC 32 (joinC 32 (fileW5 ⟨1, m, t, D⟩)) = fileW5 ⟨1, m, t, D⟩ := splitC_join 32 _ (by unfold fileW5; simp) (fileW5_noB _)
    rw [e]
    refine ⟨?_, ?_⟩
    · unfold NodN.pre
      rw [e2, if_neg (by show ¬ (5 = 2); decide), if_pos (by rfl)]
      have hx : dosTextP t = clockP (yN t) (moN t) (dN t) (hN t) (miN t) (sN t) := if_pos hT
      have e3 : (fileW5 ⟨1, m, t, D⟩).getD 1 [] = permTo m.toNat 9 := rfl
      have e4 : (fileW5 ⟨1, m, t, D⟩).getD 2 [] ++ [32] ++ (fileW5 ⟨1, m, t, D⟩).getD 3 [] = dosTextP t := by
        rw [hx, clock_split]; rfl
      have e5 : (fileW5 ⟨1, m, t, D⟩).getD 4 [] = hexT (bytesOf D) := rfl
      rw [e3, e4, e5, modeP_perm m.toNat (by omega), dosParse_text ht hT, bytesP_hexT _ (bytesOf_lt D), strOf_bytesOf]
      have z1 : ((m.toNat : Nat) : Int) = m := by omega
      rw [z1]
    · unfold fileW5
      simp [joinC]
theorem nod_ok {n : NodN} (ht : n.t < 4294967296) : nodOk n.text = decide (nodeErr n.k n.m n.t n.D = 0) ∧ (nodeErr n.k n.m n.t n.D = 0 → nodN n.text = n) := by
  by_cases h : nodeErr n.k n.m n.t n.D = 0
  · obtain ⟨h1, h2⟩ := nod_text ht h
    have h3 : nodOk n.text = true := by unfold nodOk; exact decide_eq_true ⟨h2, by rw [h1]⟩
    exact ⟨by rw [h3, decide_eq_true h], fun _ => by unfold nodN; rw [if_pos h3, h1]⟩
  · have e : n.text = [] := nodeErr_bad h
    have h3 : nodOk n.text = false := by unfold nodOk; rw [e]; exact decide_eq_false (fun h => h.1 rfl)
    exact ⟨by rw [h3, decide_eq_false h], fun h' => absurd h' h⟩
theorem pre_lt (l : List Nat) : (NodN.pre l).t < 4294967296 := by
  unfold NodN.pre
  split
  · exact Nat.zero_lt_succ _
  · split
    · exact dosParseP_lt _
    · exact Nat.zero_lt_succ _
theorem nodN_no {l : List Nat} (h : nodOk l = false) : nodN l = NodN.no := by unfold nodN; rw [if_neg (by rw [h]; decide)]
theorem nodN_lt (l : List Nat) : (nodN l).t < 4294967296 := by
  unfold nodN
  split
  · exact pre_lt l
  · exact Nat.zero_lt_succ _
end Go.Proofs.YtigjingielnaoaaGreatDoor
