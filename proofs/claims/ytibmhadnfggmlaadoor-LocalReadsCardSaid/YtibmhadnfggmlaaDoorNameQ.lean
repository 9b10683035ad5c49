/- Package name: plain: the parts of a path, and which paths may be. -/
import Derived.Test.YtibmhadnfggmlaaDoorNameP
namespace Go.Proofs.YtibmhadnfggmlaaDoor

/-- What stands between slashes. -/
def splitP : List Nat → List (List Nat)
  | [] => [[]]
  | c :: r => if c = 47 then [] :: splitP r else (c :: (splitP r).headD []) :: (splitP r).tail
theorem splitP_ne (l : List Nat) : splitP l ≠ [] := by
  cases l with
  | nil => simp [splitP]
  | cons c r => unfold splitP; split <;> simp
theorem splitP_ht (l : List Nat) : splitP l = (splitP l).headD [] :: (splitP l).tail := by
  cases h : splitP l with
  | nil => exact absurd h (splitP_ne l)
  | cons a b => rfl
theorem splitP_none : ∀ (l : List Nat), 47 ∉ l → splitP l = [l]
  | [], _ => rfl
  | c :: r, h => by
    simp only [List.mem_cons, not_or] at h
    unfold splitP
    rw [if_neg (fun e => h.1 e.symm), splitP_none r h.2]
    rfl
theorem splitP_app : ∀ (a r : List Nat), 47 ∉ a → splitP (a ++ 47 :: r) = a :: splitP r
  | [], r, _ => by simp [splitP]
  | c :: a, r, h => by
    simp only [List.mem_cons, not_or] at h
    have e : splitP (c :: (a ++ 47 :: r)) = (c :: (splitP (a ++ 47 :: r)).headD []) :: (splitP (a ++ 47 :: r)).tail := by rw [splitP, if_neg (fun e => h.1 e.symm)]
    show splitP (c :: (a ++ 47 :: r)) = _
    rw [e, splitP_app a r h.2]
    rfl
/-- The front that has been read, laid ahead of the parts of what is left. -/
def joinP (s : List Nat) (L : List (List Nat)) : List (List Nat) := (s ++ L.headD []) :: L.tail
theorem joinP_nil (l : List Nat) : joinP [] (splitP l) = splitP l := (splitP_ht l).symm
theorem joinP_slash (s r : List Nat) : joinP s (splitP (47 :: r)) = s :: joinP [] (splitP r) := by
  rw [joinP_nil]; simp [joinP, splitP]
theorem joinP_step (s r : List Nat) (c : Nat) (h : c ≠ 47) : joinP s (splitP (c :: r)) = joinP (s ++ [c]) (splitP r) := by
  have e : splitP (c :: r) = (c :: (splitP r).headD []) :: (splitP r).tail := by rw [splitP, if_neg h]
  rw [e]; simp [joinP]
theorem splitP_len : ∀ (l : List Nat), (splitP l).length ≤ l.length + 1
  | [] => by simp [splitP]
  | c :: r => by
    have ih := splitP_len r
    unfold splitP
    split
    · simp; omega
    · simp [List.length_tail]; omega
theorem splitP_mem : ∀ (l : List Nat) (p : List Nat), p ∈ splitP l → ∀ x ∈ p, x ∈ l
  | [], p, h, x, hx => by simp [splitP] at h; subst h; exact hx
  | c :: r, p, h, x, hx => by
    unfold splitP at h
    split at h
    · rcases List.mem_cons.1 h with rfl | h
      · simp at hx
      · exact List.mem_cons_of_mem _ (splitP_mem r p h x hx)
    · rcases List.mem_cons.1 h with rfl | h
      · rcases List.mem_cons.1 hx with rfl | hx
        · simp
        · refine List.mem_cons_of_mem _ (splitP_mem r ((splitP r).headD []) ?_ x hx)
          rw [splitP_ht r]; simp
      · exact List.mem_cons_of_mem _ (splitP_mem r p (List.mem_of_mem_tail h) x hx)
theorem splitP_plen : ∀ (l : List Nat) (p : List Nat), p ∈ splitP l → p.length ≤ l.length
  | [], p, h => by simp [splitP] at h; subst h; exact Nat.le_refl _
  | c :: r, p, h => by
    unfold splitP at h
    split at h
    · rcases List.mem_cons.1 h with rfl | h
      · exact Nat.zero_le _
      · have := splitP_plen r p h; simp; omega
    · rcases List.mem_cons.1 h with rfl | h
      · have := splitP_plen r ((splitP r).headD []) (by rw [splitP_ht r]; simp); simp at *; omega
      · have := splitP_plen r p (List.mem_of_mem_tail h); simp; omega
/-- ".swingle". -/
def resP : List Nat := [46, 115, 119, 105, 110, 103, 108, 101]
/-- Which paths may be. -/
def rightP (l : List Nat) : Bool := decide (l.length ≤ 200) && decide ((splitP l).headD [] ≠ resP) && decide ((splitP l).length ≤ 12) && (splitP l).all partOk
theorem rightP_long {l : List Nat} (h : 200 < l.length) : rightP l = false := by unfold rightP; rw [decide_eq_false (by omega)]; rfl
theorem rightP_res {l : List Nat} (h : (splitP l).headD [] = resP) : rightP l = false := by unfold rightP; rw [h]; simp
theorem rightP_many {l : List Nat} (h : 12 < (splitP l).length) : rightP l = false := by unfold rightP; rw [decide_eq_false (by omega : ¬ (splitP l).length ≤ 12)]; simp
theorem rightP_bad {l p : List Nat} (h : p ∈ splitP l) (hp : partOk p = false) : rightP l = false := by
  unfold rightP
  have : (splitP l).all partOk = false := by rw [List.all_eq_false]; exact ⟨p, h, by simp [hp]⟩
  rw [this]; simp
theorem rightP_yes {l : List Nat} (h1 : l.length ≤ 200) (h2 : (splitP l).headD [] ≠ resP) (h3 : (splitP l).length ≤ 12) (h4 : ∀ p ∈ splitP l, partOk p = true) : rightP l = true := by
  unfold rightP
  rw [decide_eq_true h1, decide_eq_true h2, decide_eq_true h3, List.all_eq_true.2 h4]; rfl
theorem rightP_len {l : List Nat} (h : rightP l = true) : l.length ≤ 200 := by
  unfold rightP at h; simp only [Bool.and_eq_true, decide_eq_true_eq] at h; exact h.1.1.1
theorem rightP_part {l : List Nat} (h : rightP l = true) : ∀ p ∈ splitP l, partOk p = true := by
  unfold rightP at h; simp only [Bool.and_eq_true] at h; exact List.all_eq_true.1 h.2
end Go.Proofs.YtibmhadnfggmlaaDoor
