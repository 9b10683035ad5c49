/- With a greater limit lengths cost no more; those of numbers twice as great cost twice (plain). -/
import Derived.Test.YtdehkaknbmbieaaLstP
namespace Go.Proofs.Ytdehkaknbmbieaa
set_option linter.unusedVariables false
set_option linter.unusedSimpArgs false
set_option linter.unusedSectionVars false
set_option linter.unusedVariables false

/-- What lengths cost. -/
def costN (many : List Int) (l : List Nat) (n : Nat) : Nat := sumN n (fun i => l.getD i 0 * nearN (many.getD i 0))
/-- What these lengths cost in order. -/
def costU (many : List Int) (u ks : List Nat) : Nat := sumN u.length (fun i => nearN (many.getD (u.getD i 0) 0) * ks.getD i 0)
theorem of_least {many : List Int} {n : Nat} {u : List Nat} (hu : IsUsed many n u) (L : Nat) (h2 : 2 ≤ u.length) (hk : u.length ≤ 2 ^ L) :
    (∃ ks : List Nat, ks.length = u.length ∧ (∀ k ∈ ks, k ≤ L) ∧ roomP L ks = 2 ^ L ∧ costN many (ofL many u L n) n = costU many u ks) ∧
    ∀ ks : List Nat, ks.length = u.length → (∀ k ∈ ks, k ≤ L) → roomP L ks ≤ 2 ^ L → costN many (ofL many u L n) n ≤ costU many u ks := by
  obtain ⟨_, c, c1, c2, c3, c4, c5, c6⟩ := len_fit many u L hu.srt h2 hk
  have hlt : ∀ s ∈ u, s < n := fun s hs => ((hu.mem s).1 hs).1
  have hc : ∀ i, i < u.length → lenAt many u L (u.getD i 0) = c i := fun i hi => by
    rw [List.getD_eq_getElem?_getD, List.getElem?_eq_getElem hi]
    exact c4 i hi
  have hC : costN many (ofL many u L n) n = sumN u.length (fun i => nearN (many.getD (u.getD i 0) 0) * c i) := by
    unfold costN
    rw [ofL_big (by omega)]
    rw [sum_off n _ u hu.nodup hlt (fun s hs hsu => by rw [getD_range n _ s hs, c5 s hsu, Nat.zero_mul]), sum_at]
    exact sumN_congr fun i hi => by rw [getD_range n _ _ (hlt _ (getD_mem hi)), hc i hi, Nat.mul_comm]
  have hkg : ∀ i, i < u.length → ((List.range u.length).map c).getD i 0 = c i := fun i hi => getD_range _ _ i hi
  refine ⟨⟨(List.range u.length).map c, by simp, fun k hk => ?_, ?_, ?_⟩, fun ks h1 h2 h3 => ?_⟩
  · obtain ⟨i, hi, rfl⟩ := List.mem_map.1 hk
    exact (c1 i (List.mem_range.1 hi)).2
  · rw [roomP_sum, show ((List.range u.length).map c).length = u.length by simp, ← c3]
    exact sumN_congr fun i hi => by rw [hkg i hi]
  · rw [hC]
    exact sumN_congr fun i hi => by rw [hkg i hi]
  · rw [hC]
    exact c6 ks h1 h2 h3
theorem roomP_up (L : Nat) : ∀ ks : List Nat, (∀ k ∈ ks, k ≤ L) → roomP (L + 1) ks = 2 * roomP L ks
  | [], _ => rfl
  | k :: ks, h => by
    rw [roomP_cons, roomP_cons, roomP_up L ks fun x hx => h x (List.mem_cons_of_mem _ hx), show L + 1 - k = (L - k) + 1 by have := h k List.mem_cons_self; omega, Nat.pow_succ]
    omega
theorem of_few (many many2 : List Int) (u : List Nat) (L L2 n : Nat) (h : u.length < 2) : ofL many u L n = ofL many2 u L2 n := by
  rcases Nat.lt_or_ge u.length 1 with h0 | h0
  · have hu0 : u = [] := List.eq_nil_of_length_eq_zero (by omega)
    subst hu0
    unfold ofL
    rw [if_neg (by simp), if_neg (by simp)]
    simp [lenAt, sumC]
  · unfold ofL
    rw [if_pos (by omega), if_pos (by omega)]
/-- With a greater limit lengths cost no more. -/
theorem cost_more {many : List Int} {n : Nat} {u : List Nat} (hu : IsUsed many n u) (L : Nat) (hk : u.length ≤ 2 ^ L) :
    costN many (ofL many u (L + 1) n) n ≤ costN many (ofL many u L n) n := by
  rcases Nat.lt_or_ge u.length 2 with h2 | h2
  · rw [of_few many many u (L + 1) L n h2]
    exact Nat.le_refl _
  · obtain ⟨ks, k1, k2, k3, k4⟩ := (of_least hu L h2 hk).1
    have := (of_least hu (L + 1) h2 (by rw [Nat.pow_succ]; omega)).2 ks k1 (fun k hk => by have := k2 k hk; omega) (by rw [roomP_up L ks k2, k3, Nat.pow_succ]; omega)
    rw [k4]
    exact this
/-- Numbers twice as great. -/
def twiceL (many : List Int) : List Int := many.map fun n => 2 * n
theorem twice_getD (many : List Int) (i : Nat) : (twiceL many).getD i 0 = 2 * many.getD i 0 := by
  unfold twiceL
  rw [List.getD_eq_getElem?_getD, List.getD_eq_getElem?_getD, List.getElem?_map]
  cases many[i]? <;> simp
theorem nearN_twice {many : List Int} (hb : ∀ x ∈ many, 0 ≤ x ∧ x ≤ 1000000) (i : Nat) : nearN ((twiceL many).getD i 0) = 2 * nearN (many.getD i 0) := by
  rw [twice_getD]
  have : 0 ≤ many.getD i 0 ∧ many.getD i 0 ≤ 1000000 := by
    rw [List.getD_eq_getElem?_getD]
    cases h : many[i]? with
    | none => simp
    | some x => exact hb x (List.mem_of_getElem? h)
  unfold nearN
  omega
theorem used_twice {many : List Int} {n : Nat} {u : List Nat} (hb : ∀ x ∈ many, 0 ≤ x ∧ x ≤ 1000000) (hu : IsUsed many n u) : IsUsed (twiceL many) n u := by
  refine ⟨fun i => ?_, hu.srt.imp fun {a b} h => ?_⟩
  · rw [hu.mem i, twice_getD]
    omega
  · unfold Ahead at *
    rw [nearN_twice hb, nearN_twice hb]
    omega
theorem sumN_two (f : Nat → Nat) : ∀ n, sumN n (fun i => 2 * f i) = 2 * sumN n f
  | 0 => rfl
  | n + 1 => by rw [sumN_succ, sumN_succ, sumN_two f n, Nat.mul_add]
theorem costU_twice {many : List Int} (hb : ∀ x ∈ many, 0 ≤ x ∧ x ≤ 1000000) (u ks : List Nat) : costU (twiceL many) u ks = 2 * costU many u ks := by
  unfold costU
  rw [← sumN_two]
  exact sumN_congr fun i _ => by rw [nearN_twice hb, Nat.mul_assoc]
/-- Those of numbers twice as great cost twice. -/
theorem cost_twice {many : List Int} {n : Nat} {u : List Nat} (hb : ∀ x ∈ many, 0 ≤ x ∧ x ≤ 1000000) (hu : IsUsed many n u) (L : Nat) (hk : u.length ≤ 2 ^ L) :
    costN (twiceL many) (ofL (twiceL many) u L n) n = 2 * costN many (ofL many u L n) n := by
  rcases Nat.lt_or_ge u.length 2 with h2 | h2
  · rw [of_few (twiceL many) many u L L n h2]
    unfold costN
    rw [← sumN_two]
    exact sumN_congr fun i _ => by rw [nearN_twice hb, Nat.mul_left_comm]
  · obtain ⟨⟨ks, k1, k2, k3, k4⟩, a2⟩ := of_least hu L h2 hk
    obtain ⟨⟨js, j1, j2, j3, j4⟩, b2⟩ := of_least (used_twice hb hu) L h2 hk
    have h1 := b2 ks k1 k2 (by omega)
    have h3 := a2 js j1 j2 (by omega)
    rw [costU_twice hb] at h1 j4
    omega
end Go.Proofs.Ytdehkaknbmbieaa
