/- Package node: what Parse tells of a text (plain): the text of a print that may be tells it. -/
import Derived.Test.YtibmhadnfggmlaaDoorNText
import Derived.Test.YtibmhadnfggmlaaDoorDPar
import Derived.Test.YtibmhadnfggmlaaDoorNNum
namespace Go.Proofs.YtibmhadnfggmlaaDoor
set_option linter.unusedVariables false
set_option linter.unusedSimpArgs false
set_option linter.unusedSectionVars false
open Go.RowKit
set_option linter.unusedVariables false
set_option linter.unusedSimpArgs false

/-- A print's five numbers. -/
structure PrN where
  k : Int
  m : Int
  t : Nat
  s : Int
  c : Nat
def PrN.fine (p : PrN) : Bool := fineB p.k p.m p.t p.s p.c
def PrN.text (p : PrN) : List Nat := textP p.k p.m p.t p.s p.c
def PrN.val (p : PrN) : Value := printI p.k p.m p.t p.s p.c
def PrN.no : PrN := ⟨0, 0, 0, 0, 0⟩
/-- The print of six words. -/
def fileP (w : List (List Nat)) : PrN := ⟨1, ((modeP (w.getD 1 [])).1 : Nat), (dosParseP (w.getD 2 [] ++ [32] ++ w.getD 3 [])).1, (numB 10 (w.getD 4 []) : Nat), numB 16 (w.getD 5 []) % 4294967296⟩
/-- What Parse has before it looks whether it is the text. -/
def preP (l : List Nat) : PrN :=
  if (splitC 32 l).length = 2 then ⟨2, ((modeP ((splitC 32 l).getD 1 [])).1 : Nat), 0, 0, 0⟩
  else if (splitC 32 l).length = 6 then fileP (splitC 32 l) else PrN.no
def parseOk (l : List Nat) : Bool := decide (l ≠ [] ∧ (preP l).text = l)
def parseN (l : List Nat) : PrN := if parseOk l = true then preP l else PrN.no

theorem bits_all : ∀ m : Fin 512, bitsM (permTo m 9) = m := by decide +kernel
theorem modeP_perm (m : Nat) (h : m < 512) : modeP (permTo m 9) = (m, true) := by
  have h1 : bitsM (permTo m 9) = m := bits_all ⟨m, h⟩
  unfold modeP
  rw [if_neg (by rw [permTo_len]; simp), h1, if_pos rfl]
theorem modeP_true {l : List Nat} (h : (modeP l).2 = true) : (modeP l).1 < 512 ∧ permTo (modeP l).1 9 = l := by
  unfold modeP at h ⊢
  by_cases h0 : l.length ≠ 9
  · rw [if_pos h0] at h; cases h
  · rw [if_neg h0] at h ⊢
    by_cases h1 : permTo (bitsM l) 9 = l
    · rw [if_pos h1]; exact ⟨bitsM_lt 9 l (by omega), h1⟩
    · rw [if_neg h1] at h; cases h
theorem modeP_false {l : List Nat} (h : (modeP l).2 = false) : (modeP l).1 = 0 := by
  unfold modeP at h ⊢
  by_cases h0 : l.length ≠ 9
  · rw [if_pos h0]
  · rw [if_neg h0] at h ⊢
    by_cases h1 : permTo (bitsM l) 9 = l
    · rw [if_pos h1] at h; cases h
    · rw [if_neg h1]
theorem modeP_lt (l : List Nat) : (modeP l).1 < 512 := by
  cases h : (modeP l).2 with
  | true => exact (modeP_true h).1
  | false => rw [modeP_false h]; decide
theorem numD_digP : ∀ (k n : Nat), n < 10 ^ k → numD (digP n k) = n
  | 0, n, h => by
    have : n = 0 := by simpa using h
    subst this; rfl
  | k + 1, n, h => by
    unfold digP
    rw [numD_snoc, numD_digP k (n / 10) (by rw [Nat.div_lt_iff_lt_mul (by decide)]; rw [Nat.pow_succ] at h; exact h)]
    omega
theorem timeB_right {t : Nat} (h : timeB t = true) : rightG (yN t) (moN t) (dN t) (hN t) (miN t) (sN t) = true := by
  unfold timeB rightB at h
  have e1 : ((yN t : Nat) : Int) = 1980 + (t : Int) / 33554432 % 128 := by unfold yN; omega
  have e2 : ((moN t : Nat) : Int) = (t : Int) / 2097152 % 16 := by unfold moN; omega
  have e3 : ((dN t : Nat) : Int) = (t : Int) / 65536 % 32 := by unfold dN; omega
  have e4 : ((hN t : Nat) : Int) = (t : Int) / 2048 % 32 := by unfold hN; omega
  have e5 : ((miN t : Nat) : Int) = (t : Int) / 32 % 64 := by unfold miN; omega
  have e6 : ((sN t : Nat) : Int) = 2 * ((t : Int) % 32) := by unfold sN; omega
  unfold rightG daysG
  rw [if_neg (by rw [e1]; omega), e1, e2, e3, e4, e5, e6]
  simp only [Bool.and_eq_true, decide_eq_true_eq] at h ⊢
  omega
theorem partAt_clock (y mo d h mi s : Nat) (b1 : y < 10000) (b2 : mo < 100) (b3 : d < 100) (b4 : h < 100) (b5 : mi < 100) (b6 : s < 100) :
    partAt (clockP y mo d h mi s) 0 4 = y ∧ partAt (clockP y mo d h mi s) 5 7 = mo ∧ partAt (clockP y mo d h mi s) 8 10 = d ∧ partAt (clockP y mo d h mi s) 11 13 = h ∧ partAt (clockP y mo d h mi s) 14 16 = mi ∧ partAt (clockP y mo d h mi s) 17 19 = s := by
  refine ⟨?_, ?_, ?_, ?_, ?_, ?_⟩
  · rw [← numD_digP 4 y (by omega)]; rfl
  · rw [← numD_digP 2 mo (by omega)]; rfl
  · rw [← numD_digP 2 d (by omega)]; rfl
  · rw [← numD_digP 2 h (by omega)]; rfl
  · rw [← numD_digP 2 mi (by omega)]; rfl
  · rw [← numD_digP 2 s (by omega)]; rfl
theorem dosParse_text {t : Nat} (ht : t < 4294967296) (h : timeB t = true) : dosParseP (dosTextP t) = (t, true) := by
  have hx : dosTextP t = clockP (yN t) (moN t) (dN t) (hN t) (miN t) (sN t) := if_pos h
  obtain ⟨c1, c2, c3, c4, c5, c6⟩ := parts_bd t
  obtain ⟨p1, p2, p3, p4, p5, p6⟩ := partAt_clock (yN t) (moN t) (dN t) (hN t) (miN t) (sN t) (by omega) (by omega) (by omega) (by omega) (by omega) (by omega)
  have hr : rightT (dosTextP t) = true := by
    unfold rightT; rw [hx, p1, p2, p3, p4, p5, p6]; exact timeB_right h
  have hT : timeT (dosTextP t) = t := by
    unfold timeT; rw [hx, p1, p2, p3, p4, p5, p6]
    simp only [Int.toNat_natCast]
    unfold ofN yN moN dN hN miN sN
    omega
  unfold dosParseP
  rw [if_neg (by rw [hx, clockP_len]; decide), if_neg (by rw [hr]; decide), hT, if_pos rfl]
theorem foldB_decL : ∀ (k n : Nat), n < 10 ^ k → foldB 10 (decL n) = n
  | 0, n, h => by
    have : n = 0 := by simpa using h
    subst this; rw [decL_small 0 (by decide)]; exact hexIx_hexd 0 (by decide)
  | k + 1, n, h => by
    by_cases hn : n < 10
    · rw [decL_small n hn]
      have := hexIx_hexd n (by omega)
      unfold hexd at this
      rw [if_pos hn] at this
      unfold foldB
      simp only [List.foldl_cons, List.foldl_nil]
      omega
    · rw [decL_big n hn, foldB_snoc, foldB_decL k (n / 10) (by rw [Nat.div_lt_iff_lt_mul (by decide)]; rw [Nat.pow_succ] at h; exact h)]
      have := hexIx_hexd (n % 10) (by omega)
      unfold hexd at this
      rw [if_pos (by omega)] at this
      omega
theorem numB_decL (n : Nat) (h : n < 1000000) : numB 10 (decL n) = n := by
  have hl := decL_len 6 n (by omega)
  unfold numB
  rw [List.take_of_length_le (by omega)]
  exact foldB_decL 6 n (by omega)
theorem foldB_hexP : ∀ (k n : Nat), n < 16 ^ k → foldB 16 (hexP n k) = n
  | 0, n, h => by
    have : n = 0 := by simpa using h
    subst this; rfl
  | k + 1, n, h => by
    unfold hexP
    rw [foldB_snoc, foldB_hexP k (n / 16) (by rw [Nat.div_lt_iff_lt_mul (by decide)]; rw [Nat.pow_succ] at h; exact h), hexIx_hexd _ (by omega)]
    omega
theorem numB_hexP (n k : Nat) (hk : k ≤ 10) (h : n < 16 ^ k) : numB 16 (hexP n k) = n := by
  have hl := hexP_len k n
  unfold numB
  rw [List.take_of_length_le (by omega)]
  exact foldB_hexP k n h
theorem permTo_noB (m : Nat) : ∀ i, ∀ x ∈ permTo m i, x ≠ 32
  | 0, x, h => by
    unfold permTo permBase at h
    simp only [List.mem_cons, List.not_mem_nil, or_false] at h
    omega
  | i + 1, x, h => by
    unfold permTo at h
    split at h
    · rcases List.mem_or_eq_of_mem_set h with h | h
      · exact permTo_noB m i x h
      · omega
    · exact permTo_noB m i x h
/-- The words of a file's print, six of them. -/
def fileW6 (m t s c : Nat) : List (List Nat) := [[102, 105, 108, 101], permTo m 9, digP (yN t) 4 ++ [45] ++ digP (moN t) 2 ++ [45] ++ digP (dN t) 2, digP (hN t) 2 ++ [58] ++ digP (miN t) 2 ++ [58] ++ digP (sN t) 2, decL s, hexP c 8]
theorem joinC6 (a b c d e f : List Nat) : joinC 32 [a, b, c, d, e, f] = joinC 32 [a, b, c ++ [32] ++ d, e, f] := by
  simp [joinC]
theorem clock_split (y mo d h mi s : Nat) : clockP y mo d h mi s = (digP y 4 ++ [45] ++ digP mo 2 ++ [45] ++ digP d 2) ++ [32] ++ (digP h 2 ++ [58] ++ digP mi 2 ++ [58] ++ digP s 2) := by
  unfold clockP
  simp only [List.append_assoc]
theorem fileW_six (m t s c : Nat) (h : timeB t = true) : joinC 32 (fileW m t s c) = joinC 32 (fileW6 m t s c) := by
  have hx : dosTextP t = clockP (yN t) (moN t) (dN t) (hN t) (miN t) (sN t) := if_pos h
  unfold fileW fileW6
  rw [joinC6, hx, clock_split]
theorem digP_noB (k n : Nat) : ∀ x ∈ digP n k, x ≠ 32 := fun x h => by have := digP_dig k n x h; omega
theorem fileW6_noB (m t s c : Nat) (hs : s < 1000000) : ∀ p ∈ fileW6 m t s c, ∀ x ∈ p, x ≠ 32 := by
  intro p hp x hx
  unfold fileW6 at hp
  simp only [List.mem_cons, List.not_mem_nil, or_false] at hp
  rcases hp with rfl | rfl | rfl | rfl | rfl | rfl
  · simp only [List.mem_cons, List.not_mem_nil, or_false] at hx; omega
  · exact permTo_noB m 9 x hx
  · simp only [List.mem_append, List.mem_singleton] at hx
    rcases hx with (((h | h) | h) | h) | h
    · exact digP_noB _ _ x h
    · omega
    · exact digP_noB _ _ x h
    · omega
    · exact digP_noB _ _ x h
  · simp only [List.mem_append, List.mem_singleton] at hx
    rcases hx with (((h | h) | h) | h) | h
    · exact digP_noB _ _ x h
    · omega
    · exact digP_noB _ _ x h
    · omega
    · exact digP_noB _ _ x h
  · have := decL_dig 6 s (by omega) x hx; omega
  · have := hexP_dig 8 c x hx; omega
/-- The text of a print that may be tells it. -/
theorem pre_text {p : PrN} (ht : p.t < 4294967296) (hc : p.c < 4294967296) (h : p.fine = true) : preP p.text = p ∧ p.text ≠ [] := by
  obtain ⟨k, m, t, s, c⟩ := p
  dsimp only at ht hc
  unfold PrN.fine at h
  unfold PrN.text
  dsimp only at h ⊢
  have hne : ¬ fineB k m t s c = false := by rw [h]; decide
  rcases fineB_cases h with ⟨rfl, rfl, rfl, rfl, rfl⟩ | ⟨rfl, hm0, hm1, rfl, rfl, rfl⟩ | ⟨rfl, hm0, hm1, hT, hs0, hs1, hsc⟩
  · have e : textP 0 0 0 0 0 = [110, 111, 110, 101] := by
      unfold textP; rw [if_neg hne, if_pos rfl]
    rw [e]
    have e2 : splitC 32 [110, 111, 110, 101] = [[110, 111, 110, 101]] := splitC_noc 32 _ (by
      intro x hx; simp only [List.mem_cons, List.not_mem_nil, or_false] at hx; omega)
    refine ⟨?_, by simp⟩
    unfold preP
    rw [e2, if_neg (by decide), if_neg (by decide)]
    rfl
  · have e : textP 2 m 0 0 0 = [100, 105, 114] ++ 32 :: permTo m.toNat 9 := by
      unfold textP; rw [if_neg hne, if_neg (by decide), if_pos rfl]; rfl
    rw [e]
    have e2 : splitC 32 ([100, 105, 114] ++ 32 :: permTo m.toNat 9) = [[100, 105, 114], permTo m.toNat 9] := by
      rw [splitC_cat 32 _ _ (by intro x hx; simp only [List.mem_cons, List.not_mem_nil, or_false] at hx; omega), splitC_noc 32 _ (permTo_noB _ 9)]
    refine ⟨?_, by simp⟩
    unfold preP
    rw [e2, if_pos (show [[100, 105, 114], permTo m.toNat 9].length = 2 from rfl)]
    have e3 : (modeP (List.getD [[100, 105, 114], permTo m.toNat 9] 1 [])).1 = m.toNat := by
      show (modeP (permTo m.toNat 9)).1 = _
      rw [modeP_perm m.toNat (by omega)]
    rw [e3]
    congr 1
    omega
  · have e : textP 1 m t s c = joinC 32 (fileW6 m.toNat t s.toNat c) := by
      unfold textP; rw [if_neg hne, if_neg (by decide), if_neg (by decide), fileW_six _ _ _ _ hT]
    rw [e]
    have e2 : splitC 32 (joinC 32 (fileW6 m.toNat t s.toNat c)) = fileW6 m.toNat t s.toNat c := splitC_join 32 _ (by unfold fileW6; simp) (fileW6_noB _ _ _ _ (by omega))
    refine ⟨?_, ?_⟩
    · unfold preP
      rw [e2, if_neg (by show ¬ (6 = 2); decide), if_pos (by rfl)]
      have hx : dosTextP t = clockP (yN t) (moN t) (dN t) (hN t) (miN t) (sN t) := if_pos hT
      have e3 : (fileW6 m.toNat t s.toNat c).getD 1 [] = permTo m.toNat 9 := rfl
      have e4 : (fileW6 m.toNat t s.toNat c).getD 2 [] ++ [32] ++ (fileW6 m.toNat t s.toNat c).getD 3 [] = dosTextP t := by
        rw [hx, clock_split]; rfl
      have e5 : (fileW6 m.toNat t s.toNat c).getD 4 [] = decL s.toNat := rfl
      have e6 : (fileW6 m.toNat t s.toNat c).getD 5 [] = hexP c 8 := rfl
      unfold fileP
      rw [e3, e4, e5, e6, modeP_perm m.toNat (by omega), dosParse_text ht hT, numB_decL _ (by omega), numB_hexP c 8 (by omega) (by omega)]
      have z1 : ((m.toNat : Nat) : Int) = m := by omega
      have z2 : ((s.toNat : Nat) : Int) = s := by omega
      have z3 : c % 4294967296 = c := by omega
      rw [z1, z2, z3]
    · unfold fileW6
      simp [joinC]
theorem fine_of_text {p : PrN} (h : p.text ≠ []) : p.fine = true := by
  cases hf : p.fine with
  | true => rfl
  | false => exact absurd (by unfold PrN.text textP; exact if_pos hf) h
theorem text_nofine {p : PrN} (h : p.fine = false) : p.text = [] := by unfold PrN.text textP; exact if_pos h
theorem parseOk_text {p : PrN} (ht : p.t < 4294967296) (hc : p.c < 4294967296) : parseOk p.text = p.fine ∧ (p.fine = true → parseN p.text = p) ∧ (p.fine = false → parseN p.text = PrN.no) := by
  cases hf : p.fine with
  | true =>
    obtain ⟨h1, h2⟩ := pre_text ht hc hf
    have h3 : parseOk p.text = true := by unfold parseOk; exact decide_eq_true ⟨h2, by rw [h1]⟩
    exact ⟨h3, fun _ => by unfold parseN; rw [if_pos h3, h1], fun h => by cases h⟩
  | false =>
    have h3 : parseOk p.text = false := by unfold parseOk; rw [text_nofine hf]; exact decide_eq_false (fun h => h.1 rfl)
    exact ⟨h3, fun h => (by cases h), fun _ => by unfold parseN; rw [if_neg (by rw [h3]; decide)]⟩
theorem parse_of_ok {l : List Nat} (h : parseOk l = true) : (parseN l).fine = true ∧ (parseN l).text = l := by
  have h' := of_decide_eq_true h
  unfold parseN
  rw [if_pos h]
  exact ⟨fine_of_text (by rw [h'.2]; exact h'.1), h'.2⟩
theorem parse_no {l : List Nat} (h : parseOk l = false) : parseN l = PrN.no := by unfold parseN; rw [if_neg (by rw [h]; decide)]
theorem preP_bd (l : List Nat) : (preP l).t < 4294967296 ∧ (preP l).c < 4294967296 := by
  unfold preP
  split
  · exact ⟨Nat.zero_lt_succ _, Nat.zero_lt_succ _⟩
  · split
    · unfold fileP
      refine ⟨?_, Nat.mod_lt _ (by decide)⟩
      dsimp only
      unfold dosParseP
      split
      · decide
      · split
        · decide
        · split
          · exact timeT_lt (by simp_all)
          · decide
    · exact ⟨by decide, by decide⟩
end Go.Proofs.YtibmhadnfggmlaaDoor
