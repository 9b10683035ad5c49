/- Package merge (plain): what bounds the rows. -/
import Derived.Test.YtdehkaknbmbieaaGreatQAB
import Derived.Test.YtdehkaknbmbieaaGreatQAE
namespace Go.Proofs.YtdehkaknbmbieaaGreat
set_option linter.unusedVariables false
set_option linter.unusedSimpArgs false
set_option linter.unusedSectionVars false
set_option linter.unusedVariables false

theorem mergeC_mem {a b : List Coin} {c : Coin} (h : c ∈ mergeC a b) : c ∈ a ∨ c ∈ b := by
  unfold mergeC at h
  rwa [List.mem_merge] at h
theorem rowC_len (lv : List Coin) : ∀ j, (rowC lv j).length ≤ 2 * lv.length
  | 0 => by simp [rowC]
  | j + 1 => by
    have := rowC_len lv j
    rw [rowC, mergeC_length, packC_length]
    omega
theorem rowC_w (lv : List Coin) (W : Nat) (h : ∀ c ∈ lv, c.w ≤ W) : ∀ j, ∀ c ∈ rowC lv j, c.w ≤ W * 2 ^ j
  | 0, c, hc => by simp [rowC] at hc
  | j + 1, c, hc => by
    have h2 : W * 2 ^ (j + 1) = W * 2 ^ j + W * 2 ^ j := by rw [Nat.pow_succ, ← Nat.mul_assoc]; omega
    have h3 : W ≤ W * 2 ^ j := Nat.le_mul_of_pos_right _ (Nat.pow_pos (by omega))
    rcases mergeC_mem hc with hc | hc
    · have := h c hc; omega
    · obtain ⟨a, b, ha, hb, rfl⟩ := packC_mem hc
      have h4 := rowC_w lv W h j a ha
      have h5 := rowC_w lv W h j b hb
      show a.w + b.w ≤ _
      omega
theorem rowC_syms (lv : List Coin) (n : Nat) (h : ∀ c ∈ lv, c.syms n) : ∀ j, ∀ c ∈ rowC lv j, c.syms n
  | 0, c, hc => by simp [rowC] at hc
  | j + 1, c, hc => by
    rcases mergeC_mem hc with hc | hc
    · exact h c hc
    · obtain ⟨a, b, ha, hb, rfl⟩ := packC_mem hc
      exact ⟨rowC_syms lv n h j a ha, rowC_syms lv n h j b hb⟩
/-- Leaves in all. -/
def sumM (l : List Coin) : Nat := (l.map Coin.many).sum
theorem sumM_pack : ∀ l : List Coin, sumM (packC l) ≤ sumM l
  | [] => Nat.le_refl _
  | [_] => by simp [packC, sumM]
  | a :: b :: r => by
    have := sumM_pack r
    simp only [packC, sumM, List.map_cons, List.sum_cons, Coin.many] at *
    omega
theorem sumM_merge (a b : List Coin) : sumM (mergeC a b) = sumM a + sumM b := by
  have h : (mergeC a b).Perm (a ++ b) := List.merge_perm_append _
  unfold sumM
  rw [(h.map _).sum_nat, List.map_append, List.sum_append_nat]
theorem rowC_many (lv : List Coin) : ∀ j, sumM (rowC lv j) ≤ sumM lv * j
  | 0 => by simp [rowC, sumM]
  | j + 1 => by
    have h1 := rowC_many lv j
    have h2 := sumM_pack (rowC lv j)
    rw [rowC, sumM_merge, Nat.mul_add]
    omega
theorem sumM_take (l : List Coin) (k : Nat) (h : k < l.length) : sumM (l.take k) + l[k].many ≤ sumM l := by
  have : sumM l = sumM (l.take k) + sumM (l.drop k) := by
    unfold sumM
    rw [← List.sum_append_nat, ← List.map_append, List.take_append_drop]
  rw [this, List.drop_eq_getElem_cons h]
  show _ ≤ _ + ((l[k] :: List.drop (k + 1) l).map Coin.many).sum
  rw [List.map_cons, List.sum_cons]
  omega
/-- Coins counted one behind another. -/
def addLs (l : List Nat) (cs : List Coin) : List Nat := cs.foldl (fun l c => addL l c) l
theorem addLs_snoc (l : List Nat) (cs : List Coin) (c : Coin) : addLs l (cs ++ [c]) = addL (addLs l cs) c := by simp [addLs]
theorem addLs_len : ∀ (cs : List Coin) (l : List Nat), (addLs l cs).length = l.length
  | [], l => rfl
  | c :: cs, l => by
    show (addLs (addL l c) cs).length = _
    rw [addLs_len cs, addL_len]
theorem addLs_get : ∀ (cs : List Coin) (l : List Nat) (s : Nat), s < l.length → (addLs l cs).getD s 0 = l.getD s 0 + sumC s cs
  | [], l, s, h => by simp [addLs, sumC]
  | c :: cs, l, s, h => by
    show (addLs (addL l c) cs).getD s 0 = _
    rw [addLs_get cs _ s (by rw [addL_len]; exact h), addL_get c l s h, sumC_cons]
    omega
theorem addLs_bd : ∀ (cs : List Coin) (l : List Nat) (s : Nat), (addLs l cs).getD s 0 ≤ l.getD s 0 + sumM cs
  | [], l, s => by simp [addLs, sumM]
  | c :: cs, l, s => by
    have h1 := addLs_bd cs (addL l c) s
    have h2 := addL_bd c l s
    show (addLs (addL l c) cs).getD s 0 ≤ _
    have h3 : sumM (c :: cs) = c.many + sumM cs := by simp [sumM]
    omega
theorem lvs_take (many : List Int) (u : List Nat) (i : Nat) (h : i < u.length) : lvs many (u.take (i + 1)) = lvs many (u.take i) ++ [.leaf (nearN (many.getD u[i] 0)) u[i]] := by
  unfold lvs
  rw [List.take_succ_eq_append_getElem h, List.map_append]
  rfl
theorem lvs_w (many : List Int) (u : List Nat) : ∀ c ∈ lvs many u, c.w ≤ 1073741824 := by
  intro c hc
  unfold lvs at hc
  obtain ⟨s, _, rfl⟩ := List.mem_map.1 hc
  exact nearN_le _
theorem lvs_syms (many : List Int) (u : List Nat) (n : Nat) (h : ∀ s ∈ u, s < n) : ∀ c ∈ lvs many u, c.syms n := by
  intro c hc
  unfold lvs at hc
  obtain ⟨s, hs, rfl⟩ := List.mem_map.1 hc
  exact h s hs
theorem lvs_many (many : List Int) (u : List Nat) : sumM (lvs many u) = u.length := by
  unfold lvs sumM
  induction u with
  | nil => rfl
  | cons s r ih => simp [Coin.many] at *; omega
/-- The lengths at the end. -/
theorem ends_len (many : List Int) (u : List Nat) (L n : Nat) : addLs (List.replicate n 0) ((rowC (lvs many u) L).take (2 * u.length - 2)) = (List.range n).map fun s => lenAt many u L s := by
  apply List.ext_getElem?
  intro s
  by_cases h : s < n
  · have h1 := addLs_get ((rowC (lvs many u) L).take (2 * u.length - 2)) (List.replicate n 0) s (by simpa using h)
    have h2 : s < (addLs (List.replicate n 0) ((rowC (lvs many u) L).take (2 * u.length - 2))).length := by rw [addLs_len]; simpa using h
    rw [List.getD_eq_getElem?_getD, List.getElem?_eq_getElem h2] at h1
    simp [List.getD_eq_getElem?_getD, h] at h1
    rw [List.getElem?_eq_getElem h2, h1]
    simp [h, lenAt]
  · rw [List.getElem?_eq_none (by rw [addLs_len]; simpa using h), List.getElem?_eq_none (by simpa using h)]
end Go.Proofs.YtdehkaknbmbieaaGreat
