/- Package extent: plain: Cut, Meets, Total, Holes, and the spans of a row of places. -/
import Derived.Test.YtibmhadnfggmlaaExtP
namespace Go.Proofs.Ytibmhadnfggmlaa

theorem memL_one (x : Int × Int) (p : Int) : memL [x] p ↔ x.1 ≤ p ∧ p < x.2 := by
  rw [memL_cons]; have := memL_nil p; constructor
  · rintro (h | h); exact h; exact absurd h this
  · exact .inl
theorem memL_cutOne (x y : Int × Int) (p : Int) (hx : x.1 < x.2) : memL (cutOne x y) p ↔ (y.1 ≤ p ∧ p < y.2) ∧ ¬ (x.1 ≤ p ∧ p < x.2) := by
  unfold cutOne
  rw [memL_append]
  by_cases h1 : y.1 < min y.2 x.1 <;> by_cases h2 : max y.1 x.2 < y.2
  · rw [if_pos h1, if_pos h2, memL_one, memL_one]; dsimp only; omega
  · rw [if_pos h1, if_neg h2, memL_one]; have := memL_nil p; simp only [this, or_false]; omega
  · rw [if_neg h1, if_pos h2, memL_one]; have := memL_nil p; simp only [this, false_or]; omega
  · rw [if_neg h1, if_neg h2]; have := memL_nil p; simp only [this, or_false, false_iff]; omega
theorem norm_cutOne (x y : Int × Int) (hx : x.1 < x.2) (hy : 0 ≤ y.1 ∧ y.1 < y.2 ∧ y.2 ≤ BIG) : Norm (cutOne x y) := by
  unfold cutOne
  by_cases h1 : y.1 < min y.2 x.1 <;> by_cases h2 : max y.1 x.2 < y.2
  · rw [if_pos h1, if_pos h2, norm_append]
    refine ⟨norm_one (by dsimp only; omega), norm_one (by dsimp only; omega), fun a ha b hb => ?_⟩
    simp at ha hb; subst ha; subst hb; dsimp only; omega
  · rw [if_pos h1, if_neg h2, List.append_nil]; exact norm_one (by dsimp only; omega)
  · rw [if_neg h1, if_pos h2, List.nil_append]; exact norm_one (by dsimp only; omega)
  · rw [if_neg h1, if_neg h2]; exact trivial
theorem cutOne_in {x y z : Int × Int} (hz : z ∈ cutOne x y) : y.1 ≤ z.1 ∧ z.2 ≤ y.2 := by
  unfold cutOne at hz
  rcases List.mem_append.1 hz with h | h
  · by_cases h1 : y.1 < min y.2 x.1
    · rw [if_pos h1] at h; simp at h; subst h; dsimp only; omega
    · rw [if_neg h1] at h; cases h
  · by_cases h1 : max y.1 x.2 < y.2
    · rw [if_pos h1] at h; simp at h; subst h; dsimp only; omega
    · rw [if_neg h1] at h; cases h
theorem cut_fold (x : Int × Int) (hx : x.1 < x.2) : ∀ (l : List (Int × Int)), Norm l → Norm (l.flatMap (cutOne x)) ∧ (∀ p, memL (l.flatMap (cutOne x)) p ↔ memL l p ∧ ¬ (x.1 ≤ p ∧ p < x.2)) ∧ (∀ z ∈ l.flatMap (cutOne x), ∃ y ∈ l, y.1 ≤ z.1 ∧ z.2 ≤ y.2)
  | [], _ => ⟨trivial, fun p => ⟨fun h => absurd h (memL_nil p), fun h => h.1⟩, fun z hz => by cases hz⟩
  | y :: l, h => by
    obtain ⟨h0, h1, h2⟩ := h
    obtain ⟨k0, k1, k2⟩ := cut_fold x hx l h2
    rw [List.flatMap_cons]
    refine ⟨norm_append.2 ⟨norm_cutOne x y hx h0, k0, fun a ha b hb => ?_⟩, fun p => ?_, fun z hz => ?_⟩
    · obtain ⟨q, hq, hq1, _⟩ := k2 b hb
      have := cutOne_in ha
      have := h1 q hq
      omega
    · rw [memL_append, memL_cutOne x y p hx, k1, memL_cons]
      constructor
      · rintro (⟨a, b⟩ | ⟨a, b⟩)
        · exact ⟨.inl a, b⟩
        · exact ⟨.inr a, b⟩
      · rintro ⟨a | a, b⟩
        · exact .inl ⟨a, b⟩
        · exact .inr ⟨a, b⟩
    · rcases List.mem_append.1 hz with hz | hz
      · exact ⟨y, by simp, cutOne_in hz⟩
      · obtain ⟨q, hq, hq1⟩ := k2 z hz
        exact ⟨q, by simp [hq], hq1⟩
theorem cutP_spec {l : List (Int × Int)} {x : Int × Int} (h : Norm l) (hx : spanOk x = true) : Norm (cutP l x) ∧ ∀ p, memL (cutP l x) p ↔ memL l p ∧ ¬ (x.1 ≤ p ∧ p < x.2) := by
  unfold cutP
  rw [if_pos hx]
  obtain ⟨a, b, _⟩ := cut_fold x (spanOk_iff.1 hx).2.1 l h
  exact ⟨a, b⟩
theorem addP_norm {l : List (Int × Int)} (x : Int × Int) (h : Norm l) : Norm (addP l x) := by
  by_cases hx : spanOk x = true
  · exact (addP_spec h hx).1
  · unfold addP; rw [if_neg hx]; exact h
theorem cutP_norm {l : List (Int × Int)} (x : Int × Int) (h : Norm l) : Norm (cutP l x) := by
  by_cases hx : spanOk x = true
  · exact (cutP_spec h hx).1
  · unfold cutP; rw [if_neg hx]; exact h
/-- How many places. -/
def totalP : List (Int × Int) → Int
  | [] => 0
  | y :: l => (y.2 - y.1) + totalP l
theorem totalP_append : ∀ (a b : List (Int × Int)), totalP (a ++ b) = totalP a + totalP b
  | [], b => by simp [totalP]
  | y :: a, b => by rw [List.cons_append]; simp only [totalP]; rw [totalP_append a b]; omega
theorem totalP_le : ∀ {l : List (Int × Int)} (q : Int), Norm l → (∀ y ∈ l, q ≤ y.1) → q ≤ BIG → 0 ≤ totalP l ∧ totalP l ≤ BIG - q
  | [], q, _, _, hq => by simp only [totalP]; omega
  | y :: l, q, h, hb, hq => by
    obtain ⟨h0, h1, h2⟩ := h
    have := hb y (by simp)
    have k := totalP_le (l := l) y.2 h2 (fun z hz => by have := h1 z hz; omega) h0.2.2
    simp only [totalP]
    omega
theorem totalP_bd {l : List (Int × Int)} (h : Norm l) : 0 ≤ totalP l ∧ totalP l ≤ BIG := by
  have := totalP_le (l := l) 0 h (fun y hy => (norm_mem h hy).1) (by decide)
  omega
/-- In how many places two spans meet. -/
def ov (a b : Int × Int) : Int := max 0 (min a.2 b.2 - max a.1 b.1)
def ovS (l : List (Int × Int)) (b : Int × Int) : Int := match l with | [] => 0 | y :: l => ov y b + ovS l b
theorem ovS_append : ∀ (a b : List (Int × Int)) (z : Int × Int), ovS (a ++ b) z = ovS a z + ovS b z
  | [], b, z => by simp [ovS]
  | y :: a, b, z => by rw [List.cons_append]; simp only [ovS]; rw [ovS_append a b]; omega
theorem ov_comm (a b : Int × Int) : ov a b = ov b a := by unfold ov; omega
theorem total_cutOne (x y : Int × Int) (hx : x.1 < x.2) (hy : y.1 < y.2) : totalP (cutOne x y) = (y.2 - y.1) - ov y x := by
  unfold cutOne ov
  by_cases h1 : y.1 < min y.2 x.1 <;> by_cases h2 : max y.1 x.2 < y.2
  · rw [if_pos h1, if_pos h2]; simp only [totalP, List.cons_append, List.nil_append]; omega
  · rw [if_pos h1, if_neg h2]; simp only [totalP, List.append_nil]; omega
  · rw [if_neg h1, if_pos h2]; simp only [totalP, List.nil_append]; omega
  · rw [if_neg h1, if_neg h2]; simp only [totalP, List.append_nil]; omega
theorem ov_cutOne (x y z : Int × Int) (hx : x.1 < x.2) (hy : y.1 < y.2) (hz : z.1 < z.2) (hd : x.2 ≤ z.1 ∨ z.2 ≤ x.1) : ovS (cutOne x y) z = ov y z := by
  unfold cutOne ov
  by_cases h1 : y.1 < min y.2 x.1 <;> by_cases h2 : max y.1 x.2 < y.2
  · rw [if_pos h1, if_pos h2]; simp only [ovS, ov, List.cons_append, List.nil_append]; omega
  · rw [if_pos h1, if_neg h2]; simp only [ovS, ov, List.append_nil]; omega
  · rw [if_neg h1, if_pos h2]; simp only [ovS, ov, List.nil_append]; omega
  · rw [if_neg h1, if_neg h2]; simp only [ovS, List.append_nil]; omega
theorem total_cut (x : Int × Int) (hx : x.1 < x.2) : ∀ (l : List (Int × Int)), Norm l → totalP (l.flatMap (cutOne x)) = totalP l - ovS l x
  | [], _ => rfl
  | y :: l, h => by
    rw [List.flatMap_cons, totalP_append, total_cutOne x y hx h.1.2.1, total_cut x hx l h.2.2]
    simp only [totalP, ovS]; omega
theorem ovS_cut (x z : Int × Int) (hx : x.1 < x.2) (hz : z.1 < z.2) (hd : x.2 ≤ z.1 ∨ z.2 ≤ x.1) : ∀ (l : List (Int × Int)), Norm l → ovS (l.flatMap (cutOne x)) z = ovS l z
  | [], _ => rfl
  | y :: l, h => by
    rw [List.flatMap_cons, ovS_append, ov_cutOne x y z hx h.1.2.1 hz hd, ovS_cut x z hx hz hd l h.2.2]
    simp only [ovS]
def holesP (l : List (Int × Int)) (x : Int × Int) : List (Int × Int) := if spanOk x then l.foldl cutP [x] else []
theorem holes_fold : ∀ (l m : List (Int × Int)), Norm l → Norm m → Norm (l.foldl cutP m) ∧ (∀ p, memL (l.foldl cutP m) p ↔ memL m p ∧ ¬ memL l p) ∧
    totalP (l.foldl cutP m) = totalP m - (l.map (ovS m)).sum
  | [], m, _, hm => ⟨hm, fun p => by have := memL_nil p; simp [this], by simp⟩
  | y :: l, m, h, hm => by
    obtain ⟨h0, h1, h2⟩ := h
    have hok := spanOk_iff.2 h0
    obtain ⟨c0, c1⟩ := cutP_spec hm hok
    obtain ⟨k0, k1, k2⟩ := holes_fold l (cutP m y) h2 c0
    refine ⟨k0, fun p => ?_, ?_⟩
    · rw [List.foldl_cons, k1, c1, memL_cons]
      constructor
      · rintro ⟨⟨a, b⟩, c⟩; exact ⟨a, fun h => h.elim b c⟩
      · rintro ⟨a, b⟩; exact ⟨⟨a, fun h => b (.inl h)⟩, fun h => b (.inr h)⟩
    · rw [List.foldl_cons, k2]
      have e : cutP m y = m.flatMap (cutOne y) := by unfold cutP; rw [if_pos hok]
      have e2 : l.map (ovS (cutP m y)) = l.map (ovS m) := by
        apply List.map_congr_left
        intro z hz
        rw [e]
        exact ovS_cut y z h0.2.1 (norm_mem h2 hz).2.1 (.inl (by have := h1 z hz; omega)) m hm
      rw [e2, e, total_cut y h0.2.1 m hm, List.map_cons, List.sum_cons]
      omega
theorem sum_ov (x : Int × Int) : ∀ l : List (Int × Int), (l.map (ovS [x])).sum = ovS l x
  | [] => rfl
  | y :: l => by rw [List.map_cons, List.sum_cons, sum_ov x l]; simp only [ovS]; rw [ov_comm x y]; omega
theorem holesP_spec {l : List (Int × Int)} {x : Int × Int} (h : Norm l) (hx : spanOk x = true) : Norm (holesP l x) ∧ (∀ p, memL (holesP l x) p ↔ (x.1 ≤ p ∧ p < x.2) ∧ ¬ memL l p) ∧
    totalP l - totalP (cutP l x) = x.2 - x.1 - totalP (holesP l x) := by
  obtain ⟨k0, k1, k2⟩ := holes_fold l [x] h (norm_one (spanOk_iff.1 hx))
  unfold holesP
  rw [if_pos hx]
  refine ⟨k0, fun p => by rw [k1, memL_one], ?_⟩
  rw [k2, sum_ov]
  unfold cutP
  rw [if_pos hx, total_cut x (spanOk_iff.1 hx).2.1 l h]
  simp only [totalP]
  omega
def meetsOne (x y : Int × Int) : Bool := spanOk x && decide (max x.1 y.1 < min x.2 y.2)
def meetsP (l : List (Int × Int)) (x : Int × Int) : Bool := l.any (meetsOne x)
theorem meetsP_iff {l : List (Int × Int)} {x : Int × Int} (h : Norm l) : meetsP l x = true ↔ spanOk x = true ∧ ∃ p, (x.1 ≤ p ∧ p < x.2) ∧ memL l p := by
  unfold meetsP meetsOne
  rw [List.any_eq_true]
  constructor
  · rintro ⟨y, hy, hh⟩
    simp only [Bool.and_eq_true, decide_eq_true_eq] at hh
    exact ⟨hh.1, max x.1 y.1, by omega, y, hy, by omega, by omega⟩
  · rintro ⟨hx, p, hp, y, hy, h1, h2⟩
    exact ⟨y, hy, by simp only [Bool.and_eq_true, decide_eq_true_eq]; exact ⟨hx, by omega⟩⟩
def hasP (l : List (Int × Int)) (a : Int) : Bool := decide (0 ≤ a) && decide (a < BIG) && meetsP l (a, a + 1)
theorem hasP_iff {l : List (Int × Int)} {a : Int} (h : Norm l) : hasP l a = true ↔ memL l a := by
  unfold hasP
  rw [Bool.and_eq_true, Bool.and_eq_true, decide_eq_true_eq, decide_eq_true_eq, meetsP_iff h, spanOk_iff]
  constructor
  · rintro ⟨_, _, p, hp, hm⟩
    dsimp only at hp
    have : p = a := by omega
    exact this ▸ hm
  · intro hm
    obtain ⟨y, hy, h1, h2⟩ := hm
    have := norm_mem h hy
    exact ⟨⟨by omega, by omega⟩, by dsimp only; omega, a, by dsimp only; omega, y, hy, h1, h2⟩
/-- The spans of a row of places, as the document counts them. -/
def spStep (s : List (Int × Int) × Bool × Int) (b : Bool) : List (Int × Int) × Bool × Int :=
  (if b then (if s.2.1 then s.1.dropLast ++ [((s.1.getLast?.getD (0, 0)).1, s.2.2 + 1)] else s.1 ++ [(s.2.2, s.2.2 + 1)]) else s.1, b, s.2.2 + 1)
def spansOf (l : List Bool) : List (Int × Int) := (l.foldl spStep ([], false, 0)).1
structure SpInv (l : List Bool) (s : List (Int × Int) × Bool × Int) : Prop where
  at_ : s.2.2 = l.length
  last : s.2.1 = l.getLast?.getD false
  norm : Norm s.1
  mem : ∀ p : Int, memL s.1 p ↔ 0 ≤ p ∧ l[p.toNat]? = some true
  lt : ∀ y ∈ s.1, y.2 ≤ s.2.2
  tot : totalP s.1 = l.countP id
  end_ : s.2.1 = true → ∃ a y, s.1 = a ++ [(y, s.2.2)]
  gap : s.2.1 = false → ∀ y ∈ s.1, y.2 < s.2.2 
theorem spInv_nil : SpInv [] ([], false, 0) := ⟨rfl, rfl, trivial, fun p => ⟨fun h => absurd h (memL_nil p), fun h => by simp at h⟩, fun y hy => (by cases hy), rfl, fun h => (by cases h), fun _ y hy => (by cases hy)⟩
theorem mem_snoc (l : List Bool) (b : Bool) (p : Int) : (0 ≤ p ∧ (l ++ [b])[p.toNat]? = some true) ↔ (0 ≤ p ∧ l[p.toNat]? = some true) ∨ (b = true ∧ p = l.length) := by
  by_cases h : p.toNat < l.length
  · rw [List.getElem?_append_left h]
    constructor
    · exact .inl
    · rintro (h1 | ⟨_, h1⟩)
      · exact h1
      · omega
  · rw [List.getElem?_append_right (by omega), List.getElem?_eq_none (l := l) (by omega)]
    have hf : ¬ ((none : Option Bool) = some true) := by simp
    by_cases h2 : p.toNat = l.length
    · have e : [b][p.toNat - l.length]? = some b := by rw [h2, Nat.sub_self]; rfl
      rw [e]
      constructor
      · rintro ⟨h3, h4⟩; exact .inr ⟨by simpa using h4, by omega⟩
      · rintro (⟨_, h3⟩ | ⟨h3, h4⟩)
        · exact absurd h3 hf
        · exact ⟨by omega, by rw [h3]⟩
    · rw [List.getElem?_eq_none (l := [b]) (by simp; omega)]
      constructor
      · rintro ⟨_, h3⟩; exact absurd h3 hf
      · rintro (⟨_, h3⟩ | ⟨_, h3⟩)
        · exact absurd h3 hf
        · omega
theorem SpInv.step {l : List Bool} {s : List (Int × Int) × Bool × Int} (h : SpInv l s) (b : Bool) (hb : (l.length : Int) < BIG) : SpInv (l ++ [b]) (spStep s b) := by
  obtain ⟨sp, pb, at_⟩ := s
  obtain ⟨h1, h2, h3, h4, h5, h6, h7, h8⟩ := h
  dsimp only at h1 h2 h3 h4 h5 h6 h7 h8
  subst h1
  unfold spStep
  dsimp only
  cases b with
  | false =>
    refine ⟨by simp, by simp, h3, fun p => ?_, fun y hy => ?_, by simp [h6], fun h => (by cases h), fun _ y hy => ?_⟩
    · rw [mem_snoc]; dsimp only [Bool.false_eq_true, if_false]; rw [if_neg (by simp), h4]; simp
    · have := h5 y hy; dsimp only; omega
    · have := h5 y hy; dsimp only; omega
  | true =>
    rw [if_pos rfl]
    cases pb with
    | true =>
      obtain ⟨a, y, e⟩ := h7 rfl
      subst e
      rw [if_pos rfl, List.dropLast_concat, List.getLast?_concat]
      dsimp only [Option.getD_some]
      obtain ⟨n1, n2, n3⟩ := norm_append.1 h3
      have n4 := n2.1
      dsimp only at n4
      refine ⟨by simp, by simp, norm_append.2 ⟨n1, norm_one (by dsimp only; omega), fun u hu v hv => ?_⟩, fun p => ?_, fun u hu => ?_, ?_, fun _ => ⟨a, y, rfl⟩, fun h => (by cases h)⟩
      · simp at hv; subst hv; exact n3 u hu (y, l.length) (by simp)
      · rw [mem_snoc, ← h4, memL_append, memL_append, memL_one, memL_one]; dsimp only; constructor
        · rintro (h | h)
          · exact .inl (.inl h)
          · by_cases hp : p < l.length
            · exact .inl (.inr ⟨h.1, hp⟩)
            · exact .inr ⟨rfl, by omega⟩
        · rintro ((h | h) | ⟨_, h⟩)
          · exact .inl h
          · exact .inr (by omega)
          · exact .inr (by omega)
      · rcases List.mem_append.1 hu with hu | hu
        · have := h5 u (by simp [hu]); dsimp only; omega
        · simp at hu; subst hu; exact Int.le_refl _
      · rw [totalP_append] at h6 ⊢; simp only [totalP] at h6 ⊢; simp; omega
    | false =>
      rw [if_neg (by simp)]
      refine ⟨by simp, by simp, norm_append.2 ⟨h3, norm_one (by dsimp only; omega), fun u hu v hv => ?_⟩, fun p => ?_, fun u hu => ?_, ?_, fun _ => ⟨sp, _, rfl⟩, fun h => (by cases h)⟩
      · simp at hv; subst hv; exact h8 rfl u hu
      · rw [mem_snoc, ← h4, memL_append, memL_one]; dsimp only; constructor
        · rintro (h | h)
          · exact .inl h
          · exact .inr ⟨rfl, by omega⟩
        · rintro (h | ⟨_, h⟩)
          · exact .inl h
          · exact .inr (by omega)
      · rcases List.mem_append.1 hu with hu | hu
        · have := h5 u hu; dsimp only; omega
        · simp at hu; subst hu; exact Int.le_refl _
      · rw [totalP_append]; simp only [totalP]; simp; omega
theorem spInv_all (l : List Bool) (hb : (l.length : Int) < BIG) : ∀ k, k ≤ l.length → SpInv (l.take k) ((l.take k).foldl spStep ([], false, 0))
  | 0, _ => spInv_nil
  | k + 1, hk => by
    have ih := spInv_all l hb k (by omega)
    rw [List.take_succ_eq_append_getElem (by omega), List.foldl_append]
    exact ih.step _ (by simp; omega)
theorem spansOf_spec (l : List Bool) (hb : (l.length : Int) < BIG) : Norm (spansOf l) ∧ (∀ p : Int, memL (spansOf l) p ↔ 0 ≤ p ∧ l[p.toNat]? = some true) ∧ totalP (spansOf l) = l.countP id := by
  have := spInv_all l hb l.length (Nat.le_refl _)
  rw [List.take_length] at this
  exact ⟨this.norm, this.mem, this.tot⟩
theorem eq_spansOf {m : List (Int × Int)} (l : List Bool) (hm : Norm m) (hb : (l.length : Int) < BIG) (h : ∀ p : Int, memL m p ↔ 0 ≤ p ∧ l[p.toNat]? = some true) : m = spansOf l := by
  obtain ⟨h1, h2, _⟩ := spansOf_spec l hb
  exact norm_unique hm h1 fun p => by rw [h, h2]
end Go.Proofs.Ytibmhadnfggmlaa
