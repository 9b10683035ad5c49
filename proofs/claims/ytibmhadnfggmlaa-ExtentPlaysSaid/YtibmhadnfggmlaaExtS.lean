/- Package extent: plain: what any steps on a set come to, place by place. -/
import Derived.Test.YtibmhadnfggmlaaExtJ
import Derived.Test.YtibmhadnfggmlaaExtR
namespace Go.Proofs.Ytibmhadnfggmlaa

def stepL (L : List (Int × Int)) (s : (Int × Int) × Bool) : List (Int × Int) := if s.2 then cutP L s.1 else addP L s.1
def inStep (s : (Int × Int) × Bool) (B : List Bool) : List Bool := B.mapIdx fun i b => if inB s.1 (i : Int) then !s.2 else b
structure PlayInv (L : List (Int × Int)) (B : List Bool) (k : Nat) : Prop where
  norm : Norm L
  len : B.length = 201
  mem : ∀ p : Int, memL L p ↔ 0 ≤ p ∧ B[p.toNat]? = some true
  le : L.length ≤ k
theorem playInv_nil : PlayInv [] (List.replicate 201 false) 0 := ⟨trivial, List.length_replicate, fun p => ⟨fun h => absurd h (memL_nil p), fun ⟨_, h⟩ => by
  by_cases hp : p.toNat < 201
  · rw [List.getElem?_replicate, if_pos hp] at h; cases h
  · rw [List.getElem?_eq_none (by rw [List.length_replicate]; omega)] at h; cases h⟩, Nat.zero_le _⟩
theorem inStep_len (s : (Int × Int) × Bool) (B : List Bool) : (inStep s B).length = B.length := by simp [inStep]
theorem inStep_get (s : (Int × Int) × Bool) (B : List Bool) (i : Nat) (h : i < B.length) : (inStep s B)[i]? = some (if inB s.1 (i : Int) then !s.2 else B[i]) := by
  unfold inStep
  rw [List.getElem?_mapIdx, List.getElem?_eq_getElem h]; rfl
theorem inB_iff {x : Int × Int} {i : Int} : inB x i = true ↔ spanOk x = true ∧ x.1 ≤ i ∧ i < x.2 := by
  unfold inB; simp [and_assoc]
theorem PlayInv.step {L : List (Int × Int)} {B : List Bool} {k : Nat} (h : PlayInv L B k) (s : (Int × Int) × Bool) (hs : s.1.2 ≤ 200) : PlayInv (stepL L s) (inStep s B) (k + 1) := by
  refine ⟨?_, by rw [inStep_len]; exact h.len, fun p => ?_, ?_⟩
  · unfold stepL; split
    · exact cutP_norm _ h.norm
    · exact addP_norm _ h.norm
  · by_cases hr : 0 ≤ p ∧ p.toNat < B.length
    · rw [inStep_get s B p.toNat hr.2, show ((p.toNat : Nat) : Int) = p by omega]
      have hm := h.mem p
      rw [List.getElem?_eq_getElem hr.2] at hm
      by_cases hi : inB s.1 p = true
      · rw [if_pos hi]
        obtain ⟨h1, h2, h3⟩ := inB_iff.1 hi
        unfold stepL
        cases hc : s.2
        · rw [if_neg (by simp), (addP_spec h.norm h1).2]
          constructor
          · intro _; exact ⟨hr.1, rfl⟩
          · intro _; exact .inr ⟨h2, h3⟩
        · rw [if_pos rfl, (cutP_spec h.norm h1).2]
          constructor
          · rintro ⟨_, h4⟩; exact absurd ⟨h2, h3⟩ h4
          · rintro ⟨_, h4⟩; cases h4
      · rw [if_neg hi]
        rw [← hm]
        unfold stepL
        by_cases h1 : spanOk s.1 = true
        · have hn : ¬ (s.1.1 ≤ p ∧ p < s.1.2) := fun h2 => hi (inB_iff.2 ⟨h1, h2⟩)
          split
          · rw [(cutP_spec h.norm h1).2]; exact ⟨fun h3 => h3.1, fun h3 => ⟨h3, hn⟩⟩
          · rw [(addP_spec h.norm h1).2]; exact ⟨fun h3 => h3.elim id (fun h4 => absurd h4 hn), .inl⟩
        · have e1 : cutP L s.1 = L := by unfold cutP; rw [if_neg h1]
          have e2 : addP L s.1 = L := by unfold addP; rw [if_neg h1]
          rw [e1, e2, ite_self]
    · have hl := h.len
      have hf : ¬ memL L p := fun hm => by
        have h3 := (h.mem p).1 hm
        have := (List.getElem?_eq_some_iff.1 h3.2).1
        exact hr ⟨h3.1, this⟩
      have hg : ¬ memL (stepL L s) p := fun hm => by
        unfold stepL at hm
        by_cases h1 : spanOk s.1 = true
        · split at hm
          · exact hf (((cutP_spec h.norm h1).2 p).1 hm).1
          · rcases ((addP_spec h.norm h1).2 p).1 hm with h3 | h3
            · exact hf h3
            · have := (spanOk_iff.1 h1).1; omega
        · have e1 : cutP L s.1 = L := by unfold cutP; rw [if_neg h1]
          have e2 : addP L s.1 = L := by unfold addP; rw [if_neg h1]
          rw [e1, e2, ite_self] at hm
          exact hf hm
      refine ⟨fun h3 => absurd h3 hg, fun ⟨h3, h4⟩ => ?_⟩
      rw [List.getElem?_eq_none (by rw [inStep_len]; omega)] at h4
      cases h4
  · unfold stepL; split
    · have := cutP_len (x := s.1) h.norm; have := h.le; omega
    · have := addP_len s.1 L; have := h.le; omega
theorem PlayInv.spans {L : List (Int × Int)} {B : List Bool} {k : Nat} (h : PlayInv L B k) : spansOf B = L := (eq_spansOf B h.norm (by rw [h.len]; decide) h.mem).symm
theorem PlayInv.total {L : List (Int × Int)} {B : List Bool} {k : Nat} (h : PlayInv L B k) : totW L = (B.countP id : Nat) := by
  rw [totW_norm h.norm, ← h.spans]
  exact (spansOf_spec B (by rw [h.len]; decide)).2.2
theorem PlayInv.has {L : List (Int × Int)} {B : List Bool} {k : Nat} (h : PlayInv L B k) (a : Int) : hasP L a = decide (0 ≤ a ∧ B[a.toNat]? = some true) := by
  have h1 := hasP_iff (a := a) h.norm
  have h2 := h.mem a
  by_cases hm : memL L a
  · rw [h1.2 hm, decide_eq_true (h2.1 hm)]
  · rw [decide_eq_false (fun h3 => hm (h2.2 h3))]
    cases hh : hasP L a with
    | false => rfl
    | true => exact absurd (h1.1 hh) hm
/-- Which places of x aren't in the set. -/
def holeB (x : Int × Int) (B : List Bool) : List Bool := B.mapIdx fun i b => inB x (i : Int) && !b
theorem holeB_len (x : Int × Int) (B : List Bool) : (holeB x B).length = B.length := by simp [holeB]
theorem holeB_get (x : Int × Int) (B : List Bool) (i : Nat) (h : i < B.length) : (holeB x B)[i]? = some (inB x (i : Int) && !B[i]) := by
  unfold holeB
  rw [List.getElem?_mapIdx, List.getElem?_eq_getElem h]; rfl
theorem PlayInv.holes {L : List (Int × Int)} {B : List Bool} {k : Nat} (h : PlayInv L B k) (x : Int × Int) (hx : x.2 ≤ 200) : holesP L x = spansOf (holeB x B) := by
  have hl := h.len
  have out : ∀ p : Int, ¬ (0 ≤ p ∧ p.toNat < B.length) → ¬ (0 ≤ p ∧ (holeB x B)[p.toNat]? = some true) := fun p hr ⟨h3, h4⟩ => by
    rw [List.getElem?_eq_none (by rw [holeB_len]; omega)] at h4; cases h4
  by_cases h1 : spanOk x = true
  · obtain ⟨k1, k2, _⟩ := holesP_spec h.norm h1
    refine eq_spansOf _ k1 (by rw [holeB_len, hl]; decide) fun p => ?_
    rw [k2]
    by_cases hr : 0 ≤ p ∧ p.toNat < B.length
    · rw [holeB_get x B p.toNat hr.2, show ((p.toNat : Nat) : Int) = p by omega, h.mem, List.getElem?_eq_getElem hr.2]
      cases hb : B[p.toNat] <;> by_cases hi : x.1 ≤ p ∧ p < x.2
      · have : inB x p = true := inB_iff.2 ⟨h1, hi⟩
        rw [this]; simp [hi, hr.1]
      · have : inB x p = false := by cases hh : inB x p with
          | false => rfl
          | true => exact absurd (inB_iff.1 hh).2 hi
        rw [this]; simp [hi]
      · simp [hr.1]
      · simp [hr.1]
    · refine ⟨fun ⟨h3, _⟩ => ?_, fun h3 => absurd h3 (out p hr)⟩
      exfalso
      have := (spanOk_iff.1 h1).1
      exact hr ⟨by omega, by omega⟩
  · have e : holesP L x = [] := by unfold holesP; rw [if_neg h1]
    rw [e]
    refine eq_spansOf _ trivial (by rw [holeB_len, hl]; decide) fun p => ⟨fun h3 => absurd h3 (memL_nil p), fun h3 => ?_⟩
    exfalso
    by_cases hr : 0 ≤ p ∧ p.toNat < B.length
    · rw [holeB_get x B p.toNat hr.2] at h3
      have : inB x ((p.toNat : Nat) : Int) = false := by cases hh : inB x ((p.toNat : Nat) : Int) with
        | false => rfl
        | true => exact absurd (inB_iff.1 hh).1 h1
      rw [this] at h3
      simp at h3
    · exact out p hr h3
/-- Do the first n places of x meet the set? -/
def meetB (x : Int × Int) (B : List Bool) (n : Nat) : Bool := (List.range n).any fun i => inB x (i : Int) && B.getD i false
theorem meetB_succ (x : Int × Int) (B : List Bool) (n : Nat) : meetB x B (n + 1) = (meetB x B n || (inB x (n : Int) && B.getD n false)) := by
  unfold meetB; rw [List.range_succ, List.any_append]; simp
theorem PlayInv.meets {L : List (Int × Int)} {B : List Bool} {k : Nat} (h : PlayInv L B k) (x : Int × Int) (hx : x.2 ≤ 200) : meetsP L x = meetB x B 201 := by
  have hl := h.len
  have h1 := meetsP_iff (x := x) h.norm
  have key : meetsP L x = true ↔ meetB x B 201 = true := by
    rw [h1]
    unfold meetB
    rw [List.any_eq_true]
    constructor
    · rintro ⟨hk, p, hp, hm⟩
      have h2 := (h.mem p).1 hm
      have h3 := (List.getElem?_eq_some_iff.1 h2.2).1
      refine ⟨p.toNat, List.mem_range.2 (by omega), ?_⟩
      rw [show ((p.toNat : Nat) : Int) = p by omega, List.getD_eq_getElem?_getD, h2.2, inB_iff.2 ⟨hk, hp⟩]; rfl
    · rintro ⟨i, hi, hh⟩
      rw [Bool.and_eq_true] at hh
      obtain ⟨h2, h3⟩ := hh
      obtain ⟨hk, hp⟩ := inB_iff.1 h2
      refine ⟨hk, (i : Int), hp, (h.mem i).2 ⟨by omega, ?_⟩⟩
      have hi2 := List.mem_range.1 hi
      rw [show ((i : Int)).toNat = i by omega]
      rw [List.getD_eq_getElem?_getD, List.getElem?_eq_getElem (by omega)] at h3
      rw [List.getElem?_eq_getElem (by omega)]
      simpa using h3
  cases hm : meetsP L x <;> cases hn : meetB x B 201
  · rfl
  · rw [hm, hn] at key; simp at key
  · rw [hm, hn] at key; simp at key
  · rfl
/-- Two rows of one length: the first i of the one, the others of the other. -/
def mixG (A C : List Bool) (i : Nat) : List Bool := A.take i ++ C.drop i
theorem mixG_zero (A C : List Bool) : mixG A C 0 = C := by simp [mixG]
theorem mixG_end (A C : List Bool) (n : Nat) (ha : A.length = n) (hc : C.length = n) : mixG A C n = A := by
  unfold mixG; rw [← ha, List.take_length, List.drop_eq_nil_of_le (by omega), List.append_nil]
theorem mixG_len (A C : List Bool) (i : Nat) (h : A.length = C.length) (hi : i ≤ A.length) : (mixG A C i).length = A.length := by
  unfold mixG; rw [List.length_append, List.length_take, List.length_drop]; omega
theorem mixG_get (A C : List Bool) (i j : Nat) (h : A.length = C.length) (hi : i ≤ A.length) : (mixG A C i)[j]? = if j < i then A[j]? else C[j]? := by
  unfold mixG
  by_cases hj : j < i
  · rw [if_pos hj, List.getElem?_append_left (by rw [List.length_take]; omega), List.getElem?_take, if_pos hj]
  · rw [if_neg hj, List.getElem?_append_right (by rw [List.length_take]; omega), List.length_take, Nat.min_eq_left hi, List.getElem?_drop]
    congr 1; omega
theorem mixG_set (A C : List Bool) (i : Nat) (b : Bool) (h : A.length = C.length) (hi : i < A.length) (hb : A[i]? = some b) : (mixG A C i).set i b = mixG A C (i + 1) := by
  apply List.ext_getElem?
  intro j
  rw [List.getElem?_set, mixG_get A C (i + 1) j h (by omega), mixG_get A C i j h (by omega), mixG_len A C i h (by omega)]
  by_cases hj : i = j
  · subst hj; rw [if_pos rfl, if_pos hi, if_pos (by omega), hb]
  · rw [if_neg hj]
    by_cases h2 : j < i
    · rw [if_pos h2, if_pos (by omega)]
    · rw [if_neg h2, if_neg (by omega)]
theorem mixG_no (A C : List Bool) (i : Nat) (h : A.length = C.length) (hi : i < A.length) (hb : A[i]? = C[i]?) : mixG A C i = mixG A C (i + 1) := by
  apply List.ext_getElem?
  intro j
  rw [mixG_get A C (i + 1) j h (by omega), mixG_get A C i j h (by omega)]
  by_cases h2 : j < i
  · rw [if_pos h2, if_pos (by omega)]
  · by_cases h3 : j = i
    · subst h3; rw [if_neg h2, if_pos (by omega), hb]
    · rw [if_neg h2, if_neg (by omega)]
theorem count_succ (B : List Bool) (i : Nat) (h : i < B.length) : (B.take (i + 1)).countP id = (B.take i).countP id + if B[i] then 1 else 0 := by
  rw [List.take_succ_eq_append_getElem h, List.countP_append]
  cases B[i] <;> simp
end Go.Proofs.Ytibmhadnfggmlaa
