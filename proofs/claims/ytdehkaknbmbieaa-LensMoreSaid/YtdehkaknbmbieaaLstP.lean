/- No lengths cost less (plain). -/
import Derived.Test.YtdehkaknbmbieaaFitP
import Derived.Test.YtdehkaknbmbieaaLeaP
namespace Go.Proofs.Ytdehkaknbmbieaa
set_option linter.unusedVariables false
set_option linter.unusedSimpArgs false
set_option linter.unusedSectionVars false
set_option linter.unusedVariables false

theorem costP_app {a b c d : List Nat} (h : a.length = c.length) : costP (a ++ b) (c ++ d) = costP a c + costP b d := by
  unfold costP
  rw [List.zip_append h, List.map_append, List.sum_append_nat]
theorem costP_rev : ∀ (ks l : List Nat), ks.length = l.length → costP ks.reverse l.reverse = costP ks l
  | [], [], _ => rfl
  | [], _ :: _, h => by simp at h
  | _ :: _, [], h => by simp at h
  | k :: ks, x :: l, h => by
    have h1 : ks.length = l.length := by simpa using h
    rw [List.reverse_cons, List.reverse_cons, costP_app (by simpa using h1), costP_rev ks l h1, costP_cons]
    simp [costP]
    omega
theorem costP_sum {ks l : List Nat} (h : ks.length = l.length) : costP ks l = sumN l.length (fun i => ks.getD i 0 * l.getD i 0) := by
  unfold costP sumN
  congr 1
  apply List.ext_getElem
  · simp [h]
  · intro i h1 h2
    have hi : i < l.length := by simpa using h2
    simp [List.getD_eq_getElem?_getD, hi, show i < ks.length by omega]
theorem roomP_rev (L : Nat) (ks : List Nat) : roomP L ks.reverse = roomP L ks := by
  unfold roomP
  rw [List.map_reverse, List.sum_reverse]
theorem roomP_sum (L : Nat) (ks : List Nat) : roomP L ks = sumN ks.length (fun i => 2 ^ (L - ks.getD i 0)) := by
  unfold roomP sumN
  congr 1
  apply List.ext_getElem
  · simp
  · intro i h1 h2
    have hi : i < ks.length := by simpa using h2
    simp [List.getD_eq_getElem?_getD, hi]
/-- The weights, falling. -/
def fallW (many : List Int) (u : List Nat) : List Nat := (u.map fun s => nearN (many.getD s 0)).reverse
theorem best_is {many : List Int} {n : Nat} {u : List Nat} (hn : many.length = n) (hu : IsUsed many n u) (L : Nat) (h2 : 2 ≤ u.length) (hk : u.length ≤ 2 ^ L) :
    leastP (fallW many u) 1 L (2 ^ L) = some (sumN n (fun i => (ofL many u L n).getD i 0 * nearN (many.getD i 0))) := by
  obtain ⟨_, c, c1, c2, c3, c4, c5, c6⟩ := len_fit many u L hu.srt h2 hk
  have hlt : ∀ s ∈ u, s < n := fun s hs => ((hu.mem s).1 hs).1
  have hc : ∀ i, i < u.length → lenAt many u L (u.getD i 0) = c i := fun i hi => by
    rw [List.getD_eq_getElem?_getD, List.getElem?_eq_getElem hi]
    exact c4 i hi
  have hC : sumN n (fun i => (ofL many u L n).getD i 0 * nearN (many.getD i 0)) = sumN u.length (fun i => nearN (many.getD (u.getD i 0) 0) * c i) := by
    rw [ofL_big (by omega)]
    rw [sum_off n _ u hu.nodup hlt (fun s hs hsu => by rw [getD_range n _ s hs, c5 s hsu, Nat.zero_mul]), sum_at]
    exact sumN_congr fun i hi => by rw [getD_range n _ _ (hlt _ (getD_mem hi)), hc i hi, Nat.mul_comm]
  rw [hC]
  have hw : (u.map fun s => nearN (many.getD s 0)).length = u.length := by simp
  have hwg : ∀ i, i < u.length → (u.map fun s => nearN (many.getD s 0)).getD i 0 = nearN (many.getD (u.getD i 0) 0) := fun i hi => by
    simp [List.getD_eq_getElem?_getD, hi]
  have hks : ((List.range u.length).map c).length = u.length := by simp
  have hkg : ∀ i, i < u.length → ((List.range u.length).map c).getD i 0 = c i := fun i hi => getD_range _ _ i hi
  obtain ⟨v, hv, hle⟩ := least_complete (fallW many u) ((List.range u.length).map c).reverse 1 L (2 ^ L) (by simp [fallW]) (fun k hk => by
      rw [List.mem_reverse] at hk
      obtain ⟨i, hi, rfl⟩ := List.mem_map.1 hk
      exact c1 i (List.mem_range.1 hi)) (by
      rw [List.pairwise_reverse, List.pairwise_map]
      exact List.pairwise_lt_range.imp fun h => c2 _ _ (Nat.le_of_lt h)) (by
      rw [roomP_rev, roomP_sum, hks]
      rw [sumN_congr (g := fun i => 2 ^ (L - c i)) fun i hi => by rw [hkg i hi]]
      rw [c3]
      exact Nat.le_refl _)
  rw [hv]
  congr 1
  apply Nat.le_antisymm
  · refine Nat.le_trans hle ?_
    unfold fallW
    rw [costP_rev _ _ (by simp), costP_sum (by simp), hw]
    rw [sumN_congr (g := fun i => nearN (many.getD (u.getD i 0) 0) * c i) fun i hi => by rw [hkg i hi, hwg i hi, Nat.mul_comm]]
    exact Nat.le_refl _
  · obtain ⟨ks, k1, k2, k3, rfl⟩ := least_sound _ 1 L (2 ^ L) v hv
    have kl : ks.length = u.length := by rw [k1]; simp [fallW]
    have h6 := c6 ks.reverse (by simpa using kl) (fun k hk => (k2 k (by simpa using hk)).2) (by rw [roomP_rev]; exact k3)
    refine Nat.le_trans h6 ?_
    have e : costP ks (fallW many u) = costP ks.reverse (u.map fun s => nearN (many.getD s 0)) := by
      have := costP_rev ks.reverse (u.map fun s => nearN (many.getD s 0)) (by simp [kl])
      rw [List.reverse_reverse] at this
      exact this
    rw [e, costP_sum (by simp [kl]), hw]
    exact Nat.le_of_eq (sumN_congr fun i hi => by rw [hwg i hi, Nat.mul_comm])
end Go.Proofs.Ytdehkaknbmbieaa
