/- A record's row, plain: what is written is read. -/
import Derived.Test.YtigjingielnaoaaDoorRRow
import Derived.Test.YtigjingielnaoaaDoorQBA
namespace Go.Proofs.YtigjingielnaoaaDoor
set_option linter.unusedVariables false
set_option linter.unusedSimpArgs false
set_option linter.unusedSectionVars false
open Go.RowKit
set_option linter.unusedVariables false
set_option linter.unusedSimpArgs false

theorem firstC_cat (c : Nat) (q r : List Nat) (hq : ∀ x ∈ q, x ≠ c) : firstC c (q ++ c :: r) = q.length := by
  induction q with
  | nil => rw [List.nil_append, firstC_cons, if_pos rfl]; rfl
  | cons x q ih => rw [List.cons_append, firstC_cons, if_neg (hq x (by simp)), ih (fun y hy => hq y (List.mem_cons_of_mem _ hy)), List.length_cons]
theorem splitNC_cat (c k : Nat) (q r : List Nat) (hq : ∀ x ∈ q, x ≠ c) : splitNC c (k + 1) (q ++ c :: r) = q :: splitNC c k r := by
  rw [splitNC, firstC_cat c q r hq, if_pos (by simp)]
  congr 1
  · exact List.take_left' rfl
  · congr 1
    rw [← List.drop_drop, List.drop_left' rfl]
    rfl
theorem splitNC_len (c : Nat) : ∀ (k : Nat) (l : List Nat), (splitNC c k l).length ≤ k + 1
  | 0, l => by simp [splitNC]
  | k + 1, l => by
    rw [splitNC]
    split
    · rw [List.length_cons]; have := splitNC_len c k (l.drop (firstC c l + 1)); omega
    · simp
theorem splitNC_mem (c : Nat) : ∀ (k : Nat) (l : List Nat), ∀ p ∈ splitNC c k l, p.length ≤ l.length ∧ ∀ x ∈ p, x ∈ l
  | 0, l, p, hp => by
    simp [splitNC] at hp
    subst hp
    exact ⟨Nat.le_refl _, fun x h => h⟩
  | k + 1, l, p, hp => by
    rw [splitNC] at hp
    split at hp
    · rcases List.mem_cons.1 hp with rfl | hp
      · exact ⟨by rw [List.length_take]; omega, fun x hx => List.mem_of_mem_take hx⟩
      · have := splitNC_mem c k _ p hp
        exact ⟨by have h1 := this.1; rw [List.length_drop] at h1; omega, fun x hx => List.mem_of_mem_drop (this.2 x hx)⟩
    · simp at hp
      subst hp
      exact ⟨Nat.le_refl _, fun x h => h⟩
theorem decL_len1 : ∀ (k n : Nat), n < 10 ^ (k + 1) → (decL n).length ≤ k + 1
  | 0, n, h => by rw [decL_small n (by omega)]; simp
  | k + 1, n, h => by
    by_cases h10 : n < 10
    · rw [decL_small n h10]; simp
    · rw [decL_big n h10, List.length_append]
      have := decL_len1 k (n / 10) (by rw [Nat.pow_succ] at h; rw [Nat.div_lt_iff_lt_mul (by decide)]; exact h)
      simp; omega
theorem numB_decL10 (n : Nat) (h : n < 10000000000) : numB 10 (decL n) = n := by
  have hl := decL_len1 9 n (by omega)
  unfold numB
  rw [List.take_of_length_le (by omega)]
  exact foldB_decL 10 n (by omega)
theorem decL_noB (n : Nat) (h : n < 10000000000) : ∀ x ∈ decL n, x ≠ 32 := fun x hx => by
  have := decL_dig 10 n (by omega) x hx; omega
theorem hexP_noB8 (n : Nat) : ∀ x ∈ hexP n 8, x ≠ 32 := fun x hx => by
  have := hexP_dig 8 n x hx; omega
/-- The record of a row's words. -/
def recW (w : List (List Nat)) : RecD := ⟨strOf (pathP (w.getD 8 [])).1, (numB 10 (w.getD 1 []) : Nat), numB 16 (w.getD 4 []) % 4294967296, (numB 10 (w.getD 2 []) : Nat), (numB 10 (w.getD 3 []) : Nat), ((pathP (w.getD 8 [])).2.1 : Nat), ((modeP (w.getD 5 [])).1 : Nat), (dosParseP (w.getD 6 [] ++ [32] ++ w.getD 7 [])).1, (numB 10 (w.getD 0 []) : Nat)⟩
def RecD.no : RecD := ⟨⟨#[]⟩, 0, 0, 0, 0, 0, 0, 0, 0⟩
def rowOk (l : List Nat) : Bool := decide ((splitNC 32 8 l).length = 9 ∧ rowP (recW (splitNC 32 8 l)) = l)
def rowR (l : List Nat) : RecD := if rowOk l = true then recW (splitNC 32 8 l) else RecD.no
/-- A row of a record that may be, in nine words. -/
theorem row_words {r : RecD} (h : recErr r = 0) (hs : r.sum < 4294967296) (ht : r.t < 4294967296) : (splitNC 32 8 (rowP r)).length = 9 ∧ recW (splitNC 32 8 (rowP r)) = r := by
  have hv : rowP r = joinC 32 (rowW r) := if_neg (by rw [h]; simp)
  obtain ⟨hn, hl, hm1, hm2, htb⟩ := recErr_zero h
  obtain ⟨b1, b2, b3, b4⟩ := laidB_bd hl
  have hT : timeB r.t = true := by
    unfold rtimeB at htb
    split at htb
    · have := of_decide_eq_true htb
      rw [this]
      decide +kernel
    · exact htb
  have hx : dosTextP r.t = (digP (yN r.t) 4 ++ [45] ++ digP (moN r.t) 2 ++ [45] ++ digP (dN r.t) 2) ++ [32] ++ (digP (hN r.t) 2 ++ [58] ++ digP (miN r.t) 2 ++ [58] ++ digP (sN r.t) 2) := by
    rw [show dosTextP r.t = clockP (yN r.t) (moN r.t) (dN r.t) (hN r.t) (miN r.t) (sN r.t) from if_pos hT, clock_split]
  have hnb := fileW5_noB ⟨1, 0, r.t, ⟨#[]⟩⟩
  have hd1 : ∀ x ∈ digP (yN r.t) 4 ++ [45] ++ digP (moN r.t) 2 ++ [45] ++ digP (dN r.t) 2, x ≠ 32 := hnb _ (by unfold fileW5; simp)
  have hd2 : ∀ x ∈ digP (hN r.t) 2 ++ [58] ++ digP (miN r.t) 2 ++ [58] ++ digP (sN r.t) 2, x ≠ 32 := hnb _ (by unfold fileW5; simp)
  have hdp := dosParse_text ht hT
  rw [hx] at hdp
  have hrow : rowP r = decL r.pos.toNat ++ 32 :: (decL r.m.toNat ++ 32 :: (decL r.l.toNat ++ 32 :: (decL r.wh.toNat ++ 32 :: (hexP r.sum 8 ++ 32 :: (permTo r.md.toNat 9 ++ 32 :: ((digP (yN r.t) 4 ++ [45] ++ digP (moN r.t) 2 ++ [45] ++ digP (dN r.t) 2) ++ 32 :: ((digP (hN r.t) 2 ++ [58] ++ digP (miN r.t) 2 ++ [58] ++ digP (sN r.t) 2) ++ 32 :: nameP r.k r.p))))))) := by
    rw [hv]
    unfold rowW
    rw [hx]
    simp [joinC]
  generalize digP (yN r.t) 4 ++ [45] ++ digP (moN r.t) 2 ++ [45] ++ digP (dN r.t) 2 = D1 at *
  generalize digP (hN r.t) 2 ++ [58] ++ digP (miN r.t) 2 ++ [58] ++ digP (sN r.t) 2 = D2 at *
  have hsp : splitNC 32 8 (rowP r) = [decL r.pos.toNat, decL r.m.toNat, decL r.l.toNat, decL r.wh.toNat, hexP r.sum 8, permTo r.md.toNat 9, D1, D2, nameP r.k r.p] := by
    rw [hrow, splitNC_cat 32 7 _ _ (decL_noB _ (by omega)), splitNC_cat 32 6 _ _ (decL_noB _ (by omega)), splitNC_cat 32 5 _ _ (decL_noB _ (by omega)), splitNC_cat 32 4 _ _ (decL_noB _ (by omega)), splitNC_cat 32 3 _ _ (hexP_noB8 _), splitNC_cat 32 2 _ _ (permTo_noB _ 9), splitNC_cat 32 1 _ _ hd1, splitNC_cat 32 0 _ _ hd2, splitNC]
  refine ⟨by rw [hsp]; rfl, ?_⟩
  rw [hsp]
  unfold nameB at hn
  simp only [Bool.and_eq_true, decide_eq_true_eq] at hn
  obtain ⟨⟨hn1, hn2⟩, hn3⟩ := hn
  obtain ⟨p, m, sum, l, wh, k, md, t, pos⟩ := r
  dsimp only at *
  show (⟨strOf (pathP (nameP k p)).1, (numB 10 (decL m.toNat) : Nat), numB 16 (hexP sum 8) % 4294967296, (numB 10 (decL l.toNat) : Nat), (numB 10 (decL wh.toNat) : Nat), ((pathP (nameP k p)).2.1 : Nat), ((modeP (permTo md.toNat 9)).1 : Nat), (dosParseP (D1 ++ [32] ++ D2)).1, (numB 10 (decL pos.toNat) : Nat)⟩ : RecD) = _
  rw [hn2, hn3, hdp, modeP_perm md.toNat (by omega), numB_decL10 _ (by omega), numB_decL10 _ (by omega), numB_decL10 _ (by omega), numB_decL10 _ (by omega), numB_hexP sum 8 (by omega) (by omega), strOf_bytesOf]
  rw [Int.toNat_of_nonneg (by omega), Int.toNat_of_nonneg (by omega), Int.toNat_of_nonneg (by omega), Int.toNat_of_nonneg (by omega), Int.toNat_of_nonneg (by omega), Nat.mod_eq_of_lt hs]
theorem row_ok {r : RecD} (hs : r.sum < 4294967296) (ht : r.t < 4294967296) : rowOk (rowP r) = decide (recErr r = 0) ∧ (recErr r = 0 → rowR (rowP r) = r) ∧ (recErr r = 0 → rowP r ≠ []) := by
  by_cases h : recErr r = 0
  · obtain ⟨h1, h2⟩ := row_words h hs ht
    have h3 : rowOk (rowP r) = true := by unfold rowOk; rw [h2]; exact decide_eq_true ⟨h1, rfl⟩
    refine ⟨by rw [h3, decide_eq_true h], fun _ => by unfold rowR; rw [if_pos h3, h2], fun _ h4 => ?_⟩
    rw [h4] at h1
    simp [splitNC, firstC] at h1
  · have h1 : rowP r = [] := if_pos h
    refine ⟨?_, fun h2 => absurd h2 h, fun h2 => absurd h2 h⟩
    rw [h1, decide_eq_false h]
    unfold rowOk
    apply decide_eq_false
    rintro ⟨h2, _⟩
    simp [splitNC, firstC] at h2
theorem rowR_ok {l : List Nat} (h : rowOk l = true) : rowP (rowR l) = l := by
  unfold rowR
  rw [if_pos h]
  exact (of_decide_eq_true h).2
theorem rowR_no {l : List Nat} (h : rowOk l = false) : rowR l = RecD.no := by unfold rowR; rw [if_neg (by rw [h]; decide)]
theorem recW_bd (w : List (List Nat)) : (recW w).sum < 4294967296 ∧ (recW w).t < 4294967296 := ⟨Nat.mod_lt _ (by decide), dosParseP_lt _⟩
end Go.Proofs.YtigjingielnaoaaDoor
