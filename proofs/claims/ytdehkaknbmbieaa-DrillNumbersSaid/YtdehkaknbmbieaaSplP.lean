/- A text's parts between a sign, and parts joined by one: plain. -/
import Derived.Test.YtdehkaknbmbieaaGA
import Derived.Lib.Bytealg
namespace Go.Proofs.Ytdehkaknbmbieaa
set_option linter.unusedVariables false
set_option linter.unusedSimpArgs false
set_option linter.unusedSectionVars false
open Go.RowKit

/-- How many bytes stand ahead of the first c. -/
def firstC (c : Nat) (l : List Nat) : Nat := (l.takeWhile (fun x => decide (x ≠ c))).length
theorem firstC_le (c : Nat) (l : List Nat) : firstC c l ≤ l.length := (List.takeWhile_prefix _).length_le
theorem firstC_cons (c x : Nat) (r : List Nat) : firstC c (x :: r) = if x = c then 0 else firstC c r + 1 := by
  unfold firstC
  rw [List.takeWhile_cons]
  by_cases h : x = c <;> simp [h]
/-- What stands between the c's. -/
def splitC (c : Nat) : List Nat → List (List Nat)
  | [] => [[]]
  | x :: r => if x = c then [] :: splitC c r else (x :: (splitC c r).headD []) :: (splitC c r).tail
theorem splitC_first (c : Nat) : ∀ (l : List Nat), firstC c l < l.length → splitC c l = l.take (firstC c l) :: splitC c (l.drop (firstC c l + 1))
  | [], h => by simp at h
  | x :: r, h => by
    rw [firstC_cons] at h ⊢
    by_cases e : x = c
    · subst e; simp [splitC]
    · rw [if_neg e] at h ⊢
      have ih := splitC_first c r (by rw [List.length_cons] at h; omega)
      have e2 : splitC c (x :: r) = (x :: (splitC c r).headD []) :: (splitC c r).tail := by rw [splitC, if_neg e]
      rw [e2, ih]
      simp
theorem splitC_last (c : Nat) : ∀ (l : List Nat), ¬ firstC c l < l.length → splitC c l = [l]
  | [], _ => rfl
  | x :: r, h => by
    rw [firstC_cons] at h
    by_cases e : x = c
    · rw [if_pos e] at h; simp at h
    · rw [if_neg e] at h
      have ih := splitC_last c r (by rw [List.length_cons] at h; omega)
      have e2 : splitC c (x :: r) = (x :: (splitC c r).headD []) :: (splitC c r).tail := by rw [splitC, if_neg e]
      rw [e2, ih]
      simp
theorem splitC_ne (c : Nat) (l : List Nat) : splitC c l ≠ [] := by
  cases l with
  | nil => simp [splitC]
  | cons x r => unfold splitC; split <;> simp
theorem splitC_len (c : Nat) : ∀ l : List Nat, (splitC c l).length = l.countP (fun x => decide (x = c)) + 1
  | [] => rfl
  | x :: r => by
    have ih := splitC_len c r
    by_cases e : x = c
    · rw [splitC, if_pos e, List.length_cons, ih, List.countP_cons_of_pos (by simpa using e)]
    · rw [splitC, if_neg e, List.length_cons, List.length_tail, ih, List.countP_cons_of_neg (by simpa using e)]; omega
theorem splitC_mem (c : Nat) : ∀ (l : List Nat), ∀ p ∈ splitC c l, (∀ x ∈ p, x ∈ l) ∧ p.length ≤ l.length
  | [], p, h => by simp [splitC] at h; subst h; simp
  | x :: r, p, h => by
    rw [splitC] at h
    by_cases e : x = c
    · rw [if_pos e] at h
      rcases List.mem_cons.1 h with rfl | h
      · simp
      · have := splitC_mem c r p h
        exact ⟨fun y hy => List.mem_cons_of_mem _ (this.1 y hy), by rw [List.length_cons]; omega⟩
    · rw [if_neg e] at h
      rcases List.mem_cons.1 h with rfl | h
      · have hm : (splitC c r).headD [] ∈ splitC c r := by
          cases hs : splitC c r with
          | nil => exact absurd hs (splitC_ne c r)
          | cons a b => simp
        have := splitC_mem c r _ hm
        refine ⟨fun y hy => ?_, by rw [List.length_cons, List.length_cons]; omega⟩
        rcases List.mem_cons.1 hy with rfl | hy
        · simp
        · exact List.mem_cons_of_mem _ (this.1 y hy)
      · have := splitC_mem c r p (List.mem_of_mem_tail h)
        exact ⟨fun y hy => List.mem_cons_of_mem _ (this.1 y hy), by rw [List.length_cons]; omega⟩
/-- Parts with a sign between. -/
def joinC (c : Nat) : List (List Nat) → List Nat
  | [] => []
  | [p] => p
  | p :: q :: r => p ++ c :: joinC c (q :: r)
theorem splitC_noc (c : Nat) (p : List Nat) (h : ∀ x ∈ p, x ≠ c) : splitC c p = [p] := by
  refine splitC_last c p ?_
  have e : ∀ q : List Nat, (∀ x ∈ q, x ≠ c) → firstC c q = q.length := by
    intro q
    induction q with
    | nil => intro _; rfl
    | cons x r ih =>
      intro hq
      rw [firstC_cons, if_neg (hq x (by simp)), ih (fun y hy => hq y (List.mem_cons_of_mem _ hy)), List.length_cons]
  rw [e p h]
  omega
theorem splitC_cat (c : Nat) : ∀ (p l : List Nat), (∀ x ∈ p, x ≠ c) → splitC c (p ++ c :: l) = p :: splitC c l
  | [], l, _ => by simp [splitC]
  | x :: p, l, h => by
    have ih := splitC_cat c p l (fun y hy => h y (List.mem_cons_of_mem _ hy))
    rw [List.cons_append, splitC, if_neg (h x (by simp)), ih]
    rfl
theorem splitC_join (c : Nat) : ∀ (ps : List (List Nat)), ps ≠ [] → (∀ p ∈ ps, ∀ x ∈ p, x ≠ c) → splitC c (joinC c ps) = ps
  | [], h, _ => absurd rfl h
  | [p], _, h => splitC_noc c p (h p (by simp))
  | p :: q :: r, _, h => by
    rw [joinC, splitC_cat c p _ (h p (by simp)), splitC_join c (q :: r) (by simp) (fun y hy => h y (List.mem_cons_of_mem _ hy))]
theorem joinC_split (c : Nat) : ∀ l : List Nat, joinC c (splitC c l) = l
  | [] => rfl
  | x :: r => by
    have ih := joinC_split c r
    by_cases e : x = c
    · rw [splitC, if_pos e]
      cases hs : splitC c r with
      | nil => exact absurd hs (splitC_ne c r)
      | cons a b => rw [hs] at ih; rw [joinC, ih, e]; rfl
    · rw [splitC, if_neg e]
      cases hs : splitC c r with
      | nil => exact absurd hs (splitC_ne c r)
      | cons a b =>
        rw [hs] at ih
        cases b with
        | nil => simp only [joinC, List.headD_cons, List.tail_cons] at ih ⊢; rw [ih]
        | cons d t => simp only [joinC, List.headD_cons, List.tail_cons, List.cons_append] at ih ⊢; rw [ih]
theorem joinC_snoc (c : Nat) : ∀ (ps : List (List Nat)) (p : List Nat), ps ≠ [] → joinC c (ps ++ [p]) = joinC c ps ++ c :: p
  | [], _, h => absurd rfl h
  | [q], p, _ => rfl
  | q :: r :: t, p, _ => by
    rw [List.cons_append, List.cons_append, joinC, ← List.cons_append, joinC_snoc c (r :: t) p (by simp), joinC, List.append_assoc]; rfl
theorem joinC_lt (c : Nat) (hc : c < 256) : ∀ (ps : List (List Nat)), (∀ p ∈ ps, ∀ x ∈ p, x < 256) → ∀ x ∈ joinC c ps, x < 256
  | [], _, x, h => by cases h
  | [p], h, x, hx => h p (by simp) x hx
  | p :: q :: r, h, x, hx => by
    rw [joinC] at hx
    rcases List.mem_append.1 hx with hx | hx
    · exact h p (by simp) x hx
    · rcases List.mem_cons.1 hx with rfl | hx
      · exact hc
      · exact joinC_lt c hc (q :: r) (fun y hy => h y (List.mem_cons_of_mem _ hy)) x hx
theorem indexByte_c (c : UInt8) (L : List UInt8) : Lib.indexByte L c = if firstC c.toNat (L.map UInt8.toNat) < L.length then (firstC c.toNat (L.map UInt8.toNat) : Int) else -1 := by
  induction L with
  | nil => rfl
  | cons b l ih =>
    have hb : (b == c) = decide (b.toNat = c.toNat) := by
      rw [Bool.eq_iff_iff]; simp [← UInt8.toNat_inj]
    rw [List.map_cons, firstC_cons, Lib.indexByte, hb, ih]
    by_cases e : b.toNat = c.toNat
    · simp [e]
    · rw [if_neg (by simp [e]), if_neg e]
      by_cases h : firstC c.toNat (l.map UInt8.toNat) < l.length
      · have h1 : (((firstC c.toNat (l.map UInt8.toNat) : Nat) : Int) == -1) = false := by rw [beq_eq_false_iff_ne]; omega
        rw [if_pos h, h1, if_pos (show firstC c.toNat (l.map UInt8.toNat) + 1 < (b :: l).length by rw [List.length_cons]; omega)]; simp
      · rw [if_neg h, if_neg (show ¬ firstC c.toNat (l.map UInt8.toNat) + 1 < (b :: l).length by rw [List.length_cons]; omega)]; rfl
theorem countByte_c (c : UInt8) (s : ByteArray) : Lib.countByte s.data.toList c = (bytesOf s).countP (fun x => decide (x = c.toNat)) := by
  unfold Lib.countByte bytesOf
  rw [List.count, List.countP_map]
  refine List.countP_congr fun b _ => ?_
  simp [← UInt8.toNat_inj]
end Go.Proofs.Ytdehkaknbmbieaa
