/- What lens.Of's lengths are like (plain). -/
import Derived.Test.YtdehkaknbmbieaaLOf
import Derived.Test.YtdehkaknbmbieaaSame
import Derived.Test.YtdehkaknbmbieaaHuff
import Derived.Test.YtdehkaknbmbieaaLeaP
namespace Go.Proofs.Ytdehkaknbmbieaa
set_option linter.unusedVariables false
set_option linter.unusedSimpArgs false
set_option linter.unusedSectionVars false
set_option linter.unusedVariables false

theorem getD_range (n : Nat) (f : Nat → Nat) (i : Nat) (h : i < n) : ((List.range n).map f).getD i 0 = f i := by
  simp [List.getD_eq_getElem?_getD, h]
theorem ofL_big {many : List Int} {u : List Nat} {L n : Nat} (h : u.length ≠ 1) : ofL many u L n = (List.range n).map fun s => lenAt many u L s := by
  unfold ofL
  rw [if_neg h]
theorem ofL_len (many : List Int) (u : List Nat) (L n : Nat) : (ofL many u L n).length = n := by
  unfold ofL
  split <;> simp
/-- Lengths of a fit. -/
structure Fits (many : List Int) (u : List Nat) (L n : Nat) (l : List Nat) : Prop where
  len : l.length = n
  iff : ∀ i, i < n → (0 < l.getD i 0 ↔ 0 < many.getD i 0)
  le : ∀ i, i < n → l.getD i 0 ≤ L
  fall : ∀ i j, i ≤ j → (hj : j < u.length) → l.getD (u.getD j 0) 0 ≤ l.getD (u.getD i 0) 0
  one : u.length = 1 → l.getD (u.getD 0 0) 0 = 1
  none : u = [] → wsum l = 0
  two : 2 ≤ u.length → wsum l = 32768
theorem wsum_map (n : Nat) (f : Nat → Nat) : wsum ((List.range n).map f) = sumN n (fun s => wt (f s)) := by
  unfold wsum sumN
  rw [List.map_map]
  rfl
theorem getD_mem {u : List Nat} {i : Nat} (h : i < u.length) : u.getD i 0 ∈ u := by
  rw [List.getD_eq_getElem?_getD, List.getElem?_eq_getElem h]
  exact List.getElem_mem h
theorem of_fits {many : List Int} {n : Nat} {u : List Nat} (hn : many.length = n) (hu : IsUsed many n u) (L : Nat) (h1 : 1 ≤ L) (h15 : L ≤ 15) (hk : u.length ≤ 2 ^ L) : Fits many u L n (ofL many u L n) := by
  rcases Nat.lt_or_ge u.length 2 with h2 | h2
  · rcases Nat.lt_or_ge u.length 1 with h0 | h0
    · have hu0 : u = [] := List.eq_nil_of_length_eq_zero (by omega)
      have hl : ∀ s, lenAt many u L s = 0 := fun s => by subst hu0; simp [lenAt, sumC]
      have he : ofL many u L n = (List.range n).map fun s => 0 := by
        rw [ofL_big (by omega)]
        exact List.map_congr_left fun s _ => hl s
      rw [he]
      refine ⟨by simp, fun i hi => ?_, fun i hi => by rw [getD_range n _ i hi]; omega, fun i j hij hj => by omega, fun h => by omega, fun _ => ?_, fun h => by omega⟩
      · rw [getD_range n _ i hi]
        constructor
        · intro h; omega
        · intro h
          have := (hu.mem i).2 ⟨hi, h⟩
          rw [hu0] at this
          simp at this
      · rw [wsum_map]
        have : sumN n (fun s => wt 0) = n * wt 0 := sumN_const n _
        rw [this]
        simp [wt]
    · have h1e : u.length = 1 := by omega
      obtain ⟨s, rfl⟩ : ∃ s, u = [s] := by
        cases u with
        | nil => simp at h1e
        | cons s r => cases r with
          | nil => exact ⟨s, rfl⟩
          | cons => simp at h1e
      have hs := (hu.mem s).1 (by simp)
      have he : ofL many [s] L n = (List.replicate n 0).set s 1 := by simp [ofL]
      have hg : ∀ i, i < n → (ofL many [s] L n).getD i 0 = if i = s then 1 else 0 := by
        intro i hi
        rw [he, List.getD_eq_getElem?_getD, List.getElem?_set]
        by_cases e : s = i
        · subst e; simp [hi]
        · rw [if_neg e, if_neg (fun q => e q.symm)]; simp [hi]
      refine ⟨by rw [he]; simp, fun i hi => ?_, fun i hi => by rw [hg i hi]; split <;> omega, fun i j hij hj => ?_, fun _ => ?_, fun h => by simp at h, fun h => by simp at h⟩
      · rw [hg i hi]
        have := hu.mem i
        simp at this
        by_cases e : i = s
        · rw [if_pos e]; exact ⟨fun _ => by rw [e]; exact hs.2, fun _ => by omega⟩
        · rw [if_neg e]
          constructor
          · intro q; omega
          · intro q; exact absurd (this.2 ⟨hi, by simpa [List.getD_eq_getElem?_getD] using q⟩) e
      · simp at hj
        obtain rfl : j = 0 := by omega
        obtain rfl : i = 0 := by omega
        exact Nat.le_refl _
      · show (ofL many [s] L n).getD s 0 = 1
        rw [hg s hs.1, if_pos rfl]
  · obtain ⟨_, c, c1, c2, c3, c4, c5, _⟩ := len_fit many u L hu.srt h2 hk
    have hlt : ∀ s ∈ u, s < n := fun s hs => ((hu.mem s).1 hs).1
    have hc : ∀ i, i < u.length → lenAt many u L (u.getD i 0) = c i := fun i hi => by
      rw [List.getD_eq_getElem?_getD, List.getElem?_eq_getElem hi]
      exact c4 i hi
    rw [ofL_big (by omega)]
    refine ⟨by simp, fun i hi => ?_, fun i hi => ?_, fun i j hij hj => ?_, fun h => by omega, fun h => by subst h; simp at h2, fun _ => ?_⟩
    · rw [getD_range n _ i hi]
      have hm := hu.mem i
      by_cases hiu : i ∈ u
      · obtain ⟨k, hk2, rfl⟩ := List.getElem_of_mem hiu
        rw [c4 k hk2]
        exact ⟨fun _ => (hm.1 hiu).2, fun _ => by have := (c1 k hk2).1; omega⟩
      · rw [c5 i hiu]
        exact ⟨fun q => by omega, fun q => absurd (hm.2 ⟨hi, q⟩) hiu⟩
    · rw [getD_range n _ i hi]
      by_cases hiu : i ∈ u
      · obtain ⟨k, hk2, rfl⟩ := List.getElem_of_mem hiu
        rw [c4 k hk2]
        exact (c1 k hk2).2
      · rw [c5 i hiu]; omega
    · rw [getD_range n _ _ (hlt _ (getD_mem hj)), getD_range n _ _ (hlt _ (getD_mem (by omega))), hc j hj, hc i (by omega)]
      exact c2 i j hij
    · rw [wsum_map, sum_off n _ u hu.nodup hlt (fun s _ hs => by rw [c5 s hs]; simp [wt]), sum_at]
      have e1 : sumN u.length (fun i => wt (lenAt many u L (u.getD i 0))) = sumN u.length (fun i => 2 ^ (15 - L) * 2 ^ (L - c i)) := sumN_congr fun i hi => by
        rw [hc i hi]
        have := c1 i hi
        unfold wt
        rw [if_neg (by omega), ← Nat.pow_add]
        congr 1
        omega
      have e2 : ∀ m, sumN m (fun i => 2 ^ (15 - L) * 2 ^ (L - c i)) = 2 ^ (15 - L) * sumN m (fun i => 2 ^ (L - c i)) := by
        intro m
        induction m with
        | zero => rfl
        | succ m ih => rw [sumN_succ, sumN_succ, ih, Nat.mul_add]
      rw [e1, e2, c3, ← Nat.pow_add]
      have : 15 - L + L = 15 := by omega
      rw [this]
end Go.Proofs.Ytdehkaknbmbieaa
namespace Go.Proofs.Ytdehkaknbmbieaa
set_option linter.unusedVariables false
set_option linter.unusedSimpArgs false
set_option linter.unusedSectionVars false
set_option linter.unusedVariables false

theorem costP_app {a b c d : List Nat} (h : a.length = c.length) : costP (a ++ b) (c ++ d) = costP a c + costP b d := by
  unfold costP
  rw [List.zip_append h, List.map_append, List.sum_append_nat]
theorem costP_rev : ∀ (ks l : List Nat), ks.length = l.length → costP ks.reverse l.reverse = costP ks l
  | [], [], _ => rfl
  | [], _ :: _, h => by simp at h
  | _ :: _, [], h => by simp at h
  | k :: ks, x :: l, h => by
    have h1 : ks.length = l.length := by simpa using h
    rw [List.reverse_cons, List.reverse_cons, costP_app (by simpa using h1), costP_rev ks l h1, costP_cons]
    simp [costP]
    omega
theorem costP_sum {ks l : List Nat} (h : ks.length = l.length) : costP ks l = sumN l.length (fun i => ks.getD i 0 * l.getD i 0) := by
  unfold costP sumN
  congr 1
  apply List.ext_getElem
  · simp [h]
  · intro i h1 h2
    have hi : i < l.length := by simpa using h2
    simp [List.getD_eq_getElem?_getD, hi, show i < ks.length by omega]
theorem roomP_rev (L : Nat) (ks : List Nat) : roomP L ks.reverse = roomP L ks := by
  unfold roomP
  rw [List.map_reverse, List.sum_reverse]
theorem roomP_sum (L : Nat) (ks : List Nat) : roomP L ks = sumN ks.length (fun i => 2 ^ (L - ks.getD i 0)) := by
  unfold roomP sumN
  congr 1
  apply List.ext_getElem
  · simp
  · intro i h1 h2
    have hi : i < ks.length := by simpa using h2
    simp [List.getD_eq_getElem?_getD, hi]
/-- The weights, falling. -/
def fallW (many : List Int) (u : List Nat) : List Nat := (u.map fun s => nearN (many.getD s 0)).reverse
theorem best_is {many : List Int} {n : Nat} {u : List Nat} (hn : many.length = n) (hu : IsUsed many n u) (L : Nat) (h2 : 2 ≤ u.length) (hk : u.length ≤ 2 ^ L) :
    leastP (fallW many u) 1 L (2 ^ L) = some (sumN n (fun i => (ofL many u L n).getD i 0 * nearN (many.getD i 0))) := by
  obtain ⟨_, c, c1, c2, c3, c4, c5, c6⟩ := len_fit many u L hu.srt h2 hk
  have hlt : ∀ s ∈ u, s < n := fun s hs => ((hu.mem s).1 hs).1
  have hc : ∀ i, i < u.length → lenAt many u L (u.getD i 0) = c i := fun i hi => by
    rw [List.getD_eq_getElem?_getD, List.getElem?_eq_getElem hi]
    exact c4 i hi
  have hC : sumN n (fun i => (ofL many u L n).getD i 0 * nearN (many.getD i 0)) = sumN u.length (fun i => nearN (many.getD (u.getD i 0) 0) * c i) := by
    rw [ofL_big (by omega)]
    rw [sum_off n _ u hu.nodup hlt (fun s hs hsu => by rw [getD_range n _ s hs, c5 s hsu, Nat.zero_mul]), sum_at]
    exact sumN_congr fun i hi => by rw [getD_range n _ _ (hlt _ (getD_mem hi)), hc i hi, Nat.mul_comm]
  rw [hC]
  have hw : (u.map fun s => nearN (many.getD s 0)).length = u.length := by simp
  have hwg : ∀ i, i < u.length → (u.map fun s => nearN (many.getD s 0)).getD i 0 = nearN (many.getD (u.getD i 0) 0) := fun i hi => by
    simp [List.getD_eq_getElem?_getD, hi]
  have hks : ((List.range u.length).map c).length = u.length := by simp
  have hkg : ∀ i, i < u.length → ((List.range u.length).map c).getD i 0 = c i := fun i hi => getD_range _ _ i hi
  obtain ⟨v, hv, hle⟩ := least_complete (fallW many u) ((List.range u.length).map c).reverse 1 L (2 ^ L) (by simp [fallW]) (fun k hk => by
      rw [List.mem_reverse] at hk
      obtain ⟨i, hi, rfl⟩ := List.mem_map.1 hk
      exact c1 i (List.mem_range.1 hi)) (by
      rw [List.pairwise_reverse, List.pairwise_map]
      exact List.pairwise_lt_range.imp fun h => c2 _ _ (Nat.le_of_lt h)) (by
      rw [roomP_rev, roomP_sum, hks]
      rw [sumN_congr (g := fun i => 2 ^ (L - c i)) fun i hi => by rw [hkg i hi]]
      rw [c3]
      exact Nat.le_refl _)
  rw [hv]
  congr 1
  apply Nat.le_antisymm
  · refine Nat.le_trans hle ?_
    unfold fallW
    rw [costP_rev _ _ (by simp), costP_sum (by simp), hw]
    rw [sumN_congr (g := fun i => nearN (many.getD (u.getD i 0) 0) * c i) fun i hi => by rw [hkg i hi, hwg i hi, Nat.mul_comm]]
    exact Nat.le_refl _
  · obtain ⟨ks, k1, k2, k3, rfl⟩ := least_sound _ 1 L (2 ^ L) v hv
    have kl : ks.length = u.length := by rw [k1]; simp [fallW]
    have h6 := c6 ks.reverse (by simpa using kl) (fun k hk => (k2 k (by simpa using hk)).2) (by rw [roomP_rev]; exact k3)
    refine Nat.le_trans h6 ?_
    have e : costP ks (fallW many u) = costP ks.reverse (u.map fun s => nearN (many.getD s 0)) := by
      have := costP_rev ks.reverse (u.map fun s => nearN (many.getD s 0)) (by simp [kl])
      rw [List.reverse_reverse] at this
      exact this
    rw [e, costP_sum (by simp [kl]), hw]
    exact Nat.le_of_eq (sumN_congr fun i hi => by rw [hwg i hi, Nat.mul_comm])
end Go.Proofs.Ytdehkaknbmbieaa
namespace Go.Proofs.Ytdehkaknbmbieaa
set_option linter.unusedVariables false
set_option linter.unusedSimpArgs false
set_option linter.unusedSectionVars false
set_option linter.unusedVariables false

/-- What lengths cost. -/
def costN (many : List Int) (l : List Nat) (n : Nat) : Nat := sumN n (fun i => l.getD i 0 * nearN (many.getD i 0))
/-- What these lengths cost in order. -/
def costU (many : List Int) (u ks : List Nat) : Nat := sumN u.length (fun i => nearN (many.getD (u.getD i 0) 0) * ks.getD i 0)
theorem of_least {many : List Int} {n : Nat} {u : List Nat} (hu : IsUsed many n u) (L : Nat) (h2 : 2 ≤ u.length) (hk : u.length ≤ 2 ^ L) :
    (∃ ks : List Nat, ks.length = u.length ∧ (∀ k ∈ ks, k ≤ L) ∧ roomP L ks = 2 ^ L ∧ costN many (ofL many u L n) n = costU many u ks) ∧
    ∀ ks : List Nat, ks.length = u.length → (∀ k ∈ ks, k ≤ L) → roomP L ks ≤ 2 ^ L → costN many (ofL many u L n) n ≤ costU many u ks := by
  obtain ⟨_, c, c1, c2, c3, c4, c5, c6⟩ := len_fit many u L hu.srt h2 hk
  have hlt : ∀ s ∈ u, s < n := fun s hs => ((hu.mem s).1 hs).1
  have hc : ∀ i, i < u.length → lenAt many u L (u.getD i 0) = c i := fun i hi => by
    rw [List.getD_eq_getElem?_getD, List.getElem?_eq_getElem hi]
    exact c4 i hi
  have hC : costN many (ofL many u L n) n = sumN u.length (fun i => nearN (many.getD (u.getD i 0) 0) * c i) := by
    unfold costN
    rw [ofL_big (by omega)]
    rw [sum_off n _ u hu.nodup hlt (fun s hs hsu => by rw [getD_range n _ s hs, c5 s hsu, Nat.zero_mul]), sum_at]
    exact sumN_congr fun i hi => by rw [getD_range n _ _ (hlt _ (getD_mem hi)), hc i hi, Nat.mul_comm]
  have hkg : ∀ i, i < u.length → ((List.range u.length).map c).getD i 0 = c i := fun i hi => getD_range _ _ i hi
  refine ⟨⟨(List.range u.length).map c, by simp, fun k hk => ?_, ?_, ?_⟩, fun ks h1 h2 h3 => ?_⟩
  · obtain ⟨i, hi, rfl⟩ := List.mem_map.1 hk
    exact (c1 i (List.mem_range.1 hi)).2
  · rw [roomP_sum, show ((List.range u.length).map c).length = u.length by simp, ← c3]
    exact sumN_congr fun i hi => by rw [hkg i hi]
  · rw [hC]
    exact sumN_congr fun i hi => by rw [hkg i hi]
  · rw [hC]
    exact c6 ks h1 h2 h3
theorem roomP_up (L : Nat) : ∀ ks : List Nat, (∀ k ∈ ks, k ≤ L) → roomP (L + 1) ks = 2 * roomP L ks
  | [], _ => rfl
  | k :: ks, h => by
    rw [roomP_cons, roomP_cons, roomP_up L ks fun x hx => h x (List.mem_cons_of_mem _ hx), show L + 1 - k = (L - k) + 1 by have := h k List.mem_cons_self; omega, Nat.pow_succ]
    omega
theorem of_few (many many2 : List Int) (u : List Nat) (L L2 n : Nat) (h : u.length < 2) : ofL many u L n = ofL many2 u L2 n := by
  rcases Nat.lt_or_ge u.length 1 with h0 | h0
  · have hu0 : u = [] := List.eq_nil_of_length_eq_zero (by omega)
    subst hu0
    unfold ofL
    rw [if_neg (by simp), if_neg (by simp)]
    simp [lenAt, sumC]
  · unfold ofL
    rw [if_pos (by omega), if_pos (by omega)]
/-- With a greater limit lengths cost no more. -/
theorem cost_more {many : List Int} {n : Nat} {u : List Nat} (hu : IsUsed many n u) (L : Nat) (hk : u.length ≤ 2 ^ L) :
    costN many (ofL many u (L + 1) n) n ≤ costN many (ofL many u L n) n := by
  rcases Nat.lt_or_ge u.length 2 with h2 | h2
  · rw [of_few many many u (L + 1) L n h2]
    exact Nat.le_refl _
  · obtain ⟨ks, k1, k2, k3, k4⟩ := (of_least hu L h2 hk).1
    have := (of_least hu (L + 1) h2 (by rw [Nat.pow_succ]; omega)).2 ks k1 (fun k hk => by have := k2 k hk; omega) (by rw [roomP_up L ks k2, k3, Nat.pow_succ]; omega)
    rw [k4]
    exact this
/-- Numbers twice as great. -/
def twiceL (many : List Int) : List Int := many.map fun n => 2 * n
theorem twice_getD (many : List Int) (i : Nat) : (twiceL many).getD i 0 = 2 * many.getD i 0 := by
  unfold twiceL
  rw [List.getD_eq_getElem?_getD, List.getD_eq_getElem?_getD, List.getElem?_map]
  cases many[i]? <;> simp
theorem nearN_twice {many : List Int} (hb : ∀ x ∈ many, 0 ≤ x ∧ x ≤ 1000000) (i : Nat) : nearN ((twiceL many).getD i 0) = 2 * nearN (many.getD i 0) := by
  rw [twice_getD]
  have : 0 ≤ many.getD i 0 ∧ many.getD i 0 ≤ 1000000 := by
    rw [List.getD_eq_getElem?_getD]
    cases h : many[i]? with
    | none => simp
    | some x => exact hb x (List.mem_of_getElem? h)
  unfold nearN
  omega
theorem used_twice {many : List Int} {n : Nat} {u : List Nat} (hb : ∀ x ∈ many, 0 ≤ x ∧ x ≤ 1000000) (hu : IsUsed many n u) : IsUsed (twiceL many) n u := by
  refine ⟨fun i => ?_, hu.srt.imp fun {a b} h => ?_⟩
  · rw [hu.mem i, twice_getD]
    omega
  · unfold Ahead at *
    rw [nearN_twice hb, nearN_twice hb]
    omega
theorem sumN_two (f : Nat → Nat) : ∀ n, sumN n (fun i => 2 * f i) = 2 * sumN n f
  | 0 => rfl
  | n + 1 => by rw [sumN_succ, sumN_succ, sumN_two f n, Nat.mul_add]
theorem costU_twice {many : List Int} (hb : ∀ x ∈ many, 0 ≤ x ∧ x ≤ 1000000) (u ks : List Nat) : costU (twiceL many) u ks = 2 * costU many u ks := by
  unfold costU
  rw [← sumN_two]
  exact sumN_congr fun i _ => by rw [nearN_twice hb, Nat.mul_assoc]
/-- Those of numbers twice as great cost twice. -/
theorem cost_twice {many : List Int} {n : Nat} {u : List Nat} (hb : ∀ x ∈ many, 0 ≤ x ∧ x ≤ 1000000) (hu : IsUsed many n u) (L : Nat) (hk : u.length ≤ 2 ^ L) :
    costN (twiceL many) (ofL (twiceL many) u L n) n = 2 * costN many (ofL many u L n) n := by
  rcases Nat.lt_or_ge u.length 2 with h2 | h2
  · rw [of_few (twiceL many) many u L L n h2]
    unfold costN
    rw [← sumN_two]
    exact sumN_congr fun i _ => by rw [nearN_twice hb, Nat.mul_left_comm]
  · obtain ⟨⟨ks, k1, k2, k3, k4⟩, a2⟩ := of_least hu L h2 hk
    obtain ⟨⟨js, j1, j2, j3, j4⟩, b2⟩ := of_least (used_twice hb hu) L h2 hk
    have h1 := b2 ks k1 k2 (by omega)
    have h3 := a2 js j1 j2 (by omega)
    rw [costU_twice hb] at h1 j4
    omega
end Go.Proofs.Ytdehkaknbmbieaa
