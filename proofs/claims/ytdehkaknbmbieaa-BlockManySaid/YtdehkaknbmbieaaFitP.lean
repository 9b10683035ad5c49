/- What lens.Of's lengths are like (plain). -/
import Derived.Test.YtdehkaknbmbieaaLOf
import Derived.Test.YtdehkaknbmbieaaSame
import Derived.Test.YtdehkaknbmbieaaHuff
namespace Go.Proofs.Ytdehkaknbmbieaa
set_option linter.unusedVariables false
set_option linter.unusedSimpArgs false
set_option linter.unusedSectionVars false
set_option linter.unusedVariables false

theorem getD_range (n : Nat) (f : Nat → Nat) (i : Nat) (h : i < n) : ((List.range n).map f).getD i 0 = f i := by
  simp [List.getD_eq_getElem?_getD, h]
theorem ofL_big {many : List Int} {u : List Nat} {L n : Nat} (h : u.length ≠ 1) : ofL many u L n = (List.range n).map fun s => lenAt many u L s := by
  unfold ofL
  rw [if_neg h]
theorem ofL_len (many : List Int) (u : List Nat) (L n : Nat) : (ofL many u L n).length = n := by
  unfold ofL
  split <;> simp
/-- Lengths of a fit. -/
structure Fits (many : List Int) (u : List Nat) (L n : Nat) (l : List Nat) : Prop where
  len : l.length = n
  iff : ∀ i, i < n → (0 < l.getD i 0 ↔ 0 < many.getD i 0)
  le : ∀ i, i < n → l.getD i 0 ≤ L
  fall : ∀ i j, i ≤ j → (hj : j < u.length) → l.getD (u.getD j 0) 0 ≤ l.getD (u.getD i 0) 0
  one : u.length = 1 → l.getD (u.getD 0 0) 0 = 1
  none : u = [] → wsum l = 0
  two : 2 ≤ u.length → wsum l = 32768
theorem wsum_map (n : Nat) (f : Nat → Nat) : wsum ((List.range n).map f) = sumN n (fun s => wt (f s)) := by
  unfold wsum sumN
  rw [List.map_map]
  rfl
theorem getD_mem {u : List Nat} {i : Nat} (h : i < u.length) : u.getD i 0 ∈ u := by
  rw [List.getD_eq_getElem?_getD, List.getElem?_eq_getElem h]
  exact List.getElem_mem h
theorem of_fits {many : List Int} {n : Nat} {u : List Nat} (hn : many.length = n) (hu : IsUsed many n u) (L : Nat) (h1 : 1 ≤ L) (h15 : L ≤ 15) (hk : u.length ≤ 2 ^ L) : Fits many u L n (ofL many u L n) := by
  rcases Nat.lt_or_ge u.length 2 with h2 | h2
  · rcases Nat.lt_or_ge u.length 1 with h0 | h0
    · have hu0 : u = [] := List.eq_nil_of_length_eq_zero (by omega)
      have hl : ∀ s, lenAt many u L s = 0 := fun s => by subst hu0; simp [lenAt, sumC]
      have he : ofL many u L n = (List.range n).map fun s => 0 := by
        rw [ofL_big (by omega)]
        exact List.map_congr_left fun s _ => hl s
      rw [he]
      refine ⟨by simp, fun i hi => ?_, fun i hi => by rw [getD_range n _ i hi]; omega, fun i j hij hj => by omega, fun h => by omega, fun _ => ?_, fun h => by omega⟩
      · rw [getD_range n _ i hi]
        constructor
        · intro h; omega
        · intro h
          have := (hu.mem i).2 ⟨hi, h⟩
          rw [hu0] at this
          simp at this
      · rw [wsum_map]
        have : sumN n (fun s => wt 0) = n * wt 0 := sumN_const n _
        rw [this]
        simp [wt]
    · have h1e : u.length = 1 := by omega
      obtain ⟨s, rfl⟩ : ∃ s, u = [s] := by
        cases u with
        | nil => simp at h1e
        | cons s r => cases r with
          | nil => exact ⟨s, rfl⟩
          | cons => simp at h1e
      have hs := (hu.mem s).1 (by simp)
      have he : ofL many [s] L n = (List.replicate n 0).set s 1 := by simp [ofL]
      have hg : ∀ i, i < n → (ofL many [s] L n).getD i 0 = if i = s then 1 else 0 := by
        intro i hi
        rw [he, List.getD_eq_getElem?_getD, List.getElem?_set]
        by_cases e : s = i
        · subst e; simp [hi]
        · rw [if_neg e, if_neg (fun q => e q.symm)]; simp [hi]
      refine ⟨by rw [he]; simp, fun i hi => ?_, fun i hi => by rw [hg i hi]; split <;> omega, fun i j hij hj => ?_, fun _ => ?_, fun h => by simp at h, fun h => by simp at h⟩
      · rw [hg i hi]
        have := hu.mem i
        simp at this
        by_cases e : i = s
        · rw [if_pos e]; exact ⟨fun _ => by rw [e]; exact hs.2, fun _ => by omega⟩
        · rw [if_neg e]
          constructor
          · intro q; omega
          · intro q; exact absurd (this.2 ⟨hi, by simpa [List.getD_eq_getElem?_getD] using q⟩) e
      · simp at hj
        obtain rfl : j = 0 := by omega
        obtain rfl : i = 0 := by omega
        exact Nat.le_refl _
      · show (ofL many [s] L n).getD s 0 = 1
        rw [hg s hs.1, if_pos rfl]
  · obtain ⟨_, c, c1, c2, c3, c4, c5, _⟩ := len_fit many u L hu.srt h2 hk
    have hlt : ∀ s ∈ u, s < n := fun s hs => ((hu.mem s).1 hs).1
    have hc : ∀ i, i < u.length → lenAt many u L (u.getD i 0) = c i := fun i hi => by
      rw [List.getD_eq_getElem?_getD, List.getElem?_eq_getElem hi]
      exact c4 i hi
    rw [ofL_big (by omega)]
    refine ⟨by simp, fun i hi => ?_, fun i hi => ?_, fun i j hij hj => ?_, fun h => by omega, fun h => by subst h; simp at h2, fun _ => ?_⟩
    · rw [getD_range n _ i hi]
      have hm := hu.mem i
      by_cases hiu : i ∈ u
      · obtain ⟨k, hk2, rfl⟩ := List.getElem_of_mem hiu
        rw [c4 k hk2]
        exact ⟨fun _ => (hm.1 hiu).2, fun _ => by have := (c1 k hk2).1; omega⟩
      · rw [c5 i hiu]
        exact ⟨fun q => by omega, fun q => absurd (hm.2 ⟨hi, q⟩) hiu⟩
    · rw [getD_range n _ i hi]
      by_cases hiu : i ∈ u
      · obtain ⟨k, hk2, rfl⟩ := List.getElem_of_mem hiu
        rw [c4 k hk2]
        exact (c1 k hk2).2
      · rw [c5 i hiu]; omega
    · rw [getD_range n _ _ (hlt _ (getD_mem hj)), getD_range n _ _ (hlt _ (getD_mem (by omega))), hc j hj, hc i (by omega)]
      exact c2 i j hij
    · rw [wsum_map, sum_off n _ u hu.nodup hlt (fun s _ hs => by rw [c5 s hs]; simp [wt]), sum_at]
      have e1 : sumN u.length (fun i => wt (lenAt many u L (u.getD i 0))) = sumN u.length (fun i => 2 ^ (15 - L) * 2 ^ (L - c i)) := sumN_congr fun i hi => by
        rw [hc i hi]
        have := c1 i hi
        unfold wt
        rw [if_neg (by omega), ← Nat.pow_add]
        congr 1
        omega
      have e2 : ∀ m, sumN m (fun i => 2 ^ (15 - L) * 2 ^ (L - c i)) = 2 ^ (15 - L) * sumN m (fun i => 2 ^ (L - c i)) := by
        intro m
        induction m with
        | zero => rfl
        | succ m ih => rw [sumN_succ, sumN_succ, ih, Nat.mul_add]
      rw [e1, e2, c3, ← Nat.pow_add]
      have : 15 - L + L = 15 := by omega
      rw [this]
end Go.Proofs.Ytdehkaknbmbieaa
