/- Package merge (plain): coins, rows, and what the first 2n - 2 coins of the last row weigh: no lengths cost less. -/
namespace Go.Proofs.YtdehkaknbmbieaaGreat
set_option linter.unusedVariables false
set_option linter.unusedSimpArgs false
set_option linter.unusedSectionVars false

inductive Coin where
  | leaf (w s : Nat)
  | pack (a b : Coin)
def Coin.w : Coin → Nat
  | .leaf w _ => w
  | .pack a b => a.w + b.w
def Coin.cnt (s : Nat) : Coin → Nat
  | .leaf _ t => if t = s then 1 else 0
  | .pack a b => a.cnt s + b.cnt s
def sumW (l : List Coin) : Nat := (l.map Coin.w).sum
def sumC (s : Nat) (l : List Coin) : Nat := (l.map (Coin.cnt s)).sum
def leC (x y : Coin) : Bool := decide (x.w ≤ y.w)
def mergeC (a b : List Coin) : List Coin := List.merge a b leC
def packC : List Coin → List Coin
  | a :: b :: r => .pack a b :: packC r
  | [_] => []
  | [] => []
def rowC (lv : List Coin) : Nat → List Coin
  | 0 => []
  | j + 1 => mergeC lv (packC (rowC lv j))

theorem sumW_append (a b : List Coin) : sumW (a ++ b) = sumW a + sumW b := by simp [sumW]
theorem sumC_append (s : Nat) (a b : List Coin) : sumC s (a ++ b) = sumC s a + sumC s b := by simp [sumC]
theorem sumW_cons (a : Coin) (b : List Coin) : sumW (a :: b) = a.w + sumW b := by simp [sumW]
theorem sumC_cons (s : Nat) (a : Coin) (b : List Coin) : sumC s (a :: b) = a.cnt s + sumC s b := by simp [sumC]
theorem sumW_perm {a b : List Coin} (h : a.Perm b) : sumW a = sumW b := (h.map _).sum_nat
theorem sumC_perm {s : Nat} {a b : List Coin} (h : a.Perm b) : sumC s a = sumC s b := (h.map _).sum_nat

theorem mergeC_nil (b : List Coin) : mergeC [] b = b := by unfold mergeC; rw [List.nil_merge]
theorem mergeC_right (a : List Coin) : mergeC a [] = a := by unfold mergeC; rw [List.merge_right]
theorem mergeC_cons (x y : Coin) (a b : List Coin) : mergeC (x :: a) (y :: b) = if x.w ≤ y.w then x :: mergeC a (y :: b) else y :: mergeC (x :: a) b := by
  unfold mergeC
  rw [List.cons_merge_cons]
  by_cases h : x.w ≤ y.w
  · rw [if_pos h, if_pos (by unfold leC; exact decide_eq_true h)]
  · rw [if_neg h, if_neg (by unfold leC; simpa using h)]
theorem mergeC_length (a b : List Coin) : (mergeC a b).length = a.length + b.length := by unfold mergeC; exact List.length_merge ..
theorem packC_length : ∀ l : List Coin, (packC l).length = l.length / 2
  | [] => rfl
  | [_] => by simp [packC]
  | a :: b :: r => by
    show (packC r).length + 1 = (r.length + 2) / 2
    rw [packC_length r]; omega
/-- Rising rows. -/
def Rise (l : List Coin) : Prop := l.Pairwise (fun x y => x.w ≤ y.w)
theorem mergeC_rise {a b : List Coin} (ha : Rise a) (hb : Rise b) : Rise (mergeC a b) := by
  induction a generalizing b with
  | nil => rw [mergeC_nil]; exact hb
  | cons x a iha =>
    induction b with
    | nil => rw [mergeC_right]; exact ha
    | cons y b ihb =>
      rw [mergeC_cons]
      have ha' := List.pairwise_cons.1 ha
      have hb' := List.pairwise_cons.1 hb
      by_cases h : x.w ≤ y.w
      · rw [if_pos h]
        refine List.pairwise_cons.2 ⟨?_, iha ha'.2 hb⟩
        intro z hz
        unfold mergeC at hz
        rcases List.mem_merge.1 hz with hz | hz
        · exact ha'.1 z hz
        · rcases List.mem_cons.1 hz with rfl | hz
          · exact h
          · exact Nat.le_trans h (hb'.1 z hz)
      · rw [if_neg h]
        refine List.pairwise_cons.2 ⟨?_, ihb hb'.2⟩
        intro z hz
        unfold mergeC at hz
        rcases List.mem_merge.1 hz with hz | hz
        · rcases List.mem_cons.1 hz with rfl | hz
          · omega
          · have := ha'.1 z hz; omega
        · exact hb'.1 z hz
theorem packC_mem : ∀ {l : List Coin} {z : Coin}, z ∈ packC l → ∃ a b, a ∈ l ∧ b ∈ l ∧ z = .pack a b
  | a :: b :: r, z, h => by
    rcases List.mem_cons.1 h with rfl | h
    · exact ⟨a, b, by simp, by simp, rfl⟩
    · obtain ⟨c, d, h1, h2, h3⟩ := packC_mem h
      exact ⟨c, d, by simp [h1], by simp [h2], h3⟩
theorem packC_rise : ∀ {l : List Coin}, Rise l → Rise (packC l)
  | [], _ => List.Pairwise.nil
  | [_], _ => List.Pairwise.nil
  | a :: b :: r, h => by
    have h1 := List.pairwise_cons.1 h
    have h2 := List.pairwise_cons.1 h1.2
    refine List.pairwise_cons.2 ⟨?_, packC_rise h2.2⟩
    intro z hz
    obtain ⟨c, d, hc, hd, rfl⟩ := packC_mem hz
    have e1 := h1.1 c (by simp [hc])
    have e2 := h2.1 d hd
    show a.w + b.w ≤ c.w + d.w
    omega
theorem rowC_rise {lv : List Coin} (h : Rise lv) : ∀ j, Rise (rowC lv j)
  | 0 => List.Pairwise.nil
  | j + 1 => mergeC_rise h (packC_rise (rowC_rise h j))
/-- The first p pairs have what the first 2p coins have. -/
theorem packC_take : ∀ (p : Nat) (l : List Coin), 2 * p ≤ l.length → sumW ((packC l).take p) = sumW (l.take (2 * p)) ∧ (∀ s, sumC s ((packC l).take p) = sumC s (l.take (2 * p))) ∧ ∀ x ∈ l.take (2 * p), ∃ y ∈ (packC l).take p, x.w ≤ y.w
  | 0, l, _ => by simp [sumW, sumC]
  | p + 1, l, h => by
    match l, h with
    | a :: b :: r, h =>
      have hr : 2 * p ≤ r.length := by simp at h; omega
      obtain ⟨h1, h2, h3⟩ := packC_take p r hr
      have e : 2 * (p + 1) = 2 * p + 1 + 1 := by omega
      rw [e]
      simp only [packC, List.take_succ_cons, sumW_cons, sumC_cons, h1, h2]
      refine ⟨by show a.w + b.w + _ = _; omega, fun s => by show a.cnt s + b.cnt s + _ = _; omega, ?_⟩
      intro x hx
      rcases List.mem_cons.1 hx with rfl | hx
      · exact ⟨_, List.mem_cons_self, by show x.w ≤ x.w + b.w; omega⟩
      · rcases List.mem_cons.1 hx with rfl | hx
        · exact ⟨_, List.mem_cons_self, by show x.w ≤ a.w + x.w; omega⟩
        · obtain ⟨y, hy, hxy⟩ := h3 x hx
          exact ⟨y, List.mem_cons_of_mem _ hy, hxy⟩
/-- Where the first coins of a merged row come from. -/
theorem mergeC_take : ∀ (a b : List Coin) (c : Nat), Rise a → c ≤ a.length + b.length →
    ∃ t, t ≤ c ∧ t ≤ a.length ∧ c - t ≤ b.length ∧ ((mergeC a b).take c).Perm (a.take t ++ b.take (c - t)) ∧ (∀ (h : t < a.length), ∀ y ∈ b.take (c - t), y.w < a[t].w) := by
  intro a
  induction a with
  | nil =>
    intro b c _ hc
    refine ⟨0, by omega, by simp, by simpa using hc, ?_, fun h => by simp at h⟩
    rw [mergeC_nil]; simp
  | cons x a iha =>
    intro b
    induction b with
    | nil =>
      intro c ha hc
      refine ⟨c, by omega, by simpa using hc, by simp, ?_, ?_⟩
      · rw [mergeC_right]; simp
      · intro h y hy; simp at hy
    | cons y b ihb =>
      intro c ha hc
      have ha' := List.pairwise_cons.1 ha
      cases c with
      | zero => exact ⟨0, by omega, by omega, by omega, by simp, fun h y hy => by simp at hy⟩
      | succ c =>
        rw [mergeC_cons]
        by_cases hxy : x.w ≤ y.w
        · rw [if_pos hxy]
          obtain ⟨t, h1, h2, h3, h4, h5⟩ := iha (y :: b) c ha'.2 (by simp at hc ⊢; omega)
          refine ⟨t + 1, by omega, by simp; omega, by rw [Nat.add_sub_add_right]; exact h3, ?_, ?_⟩
          · rw [List.take_succ_cons, List.take_succ_cons, Nat.add_sub_add_right]
            exact List.Perm.cons x h4
          · intro h z hz
            rw [Nat.add_sub_add_right] at hz
            exact h5 (by simpa using h) z hz
        · rw [if_neg hxy]
          obtain ⟨t, h1, h2, h3, h4, h5⟩ := ihb c ha (by simp at hc ⊢; omega)
          have e : c + 1 - t = (c - t) + 1 := by omega
          refine ⟨t, by omega, h2, by rw [e]; simp; omega, ?_, ?_⟩
          · rw [e, List.take_succ_cons, List.take_succ_cons]
            exact (List.Perm.cons y h4).trans List.perm_middle.symm
          · intro h z hz
            rw [e, List.take_succ_cons] at hz
            rcases List.mem_cons.1 hz with rfl | hz
            · have : x.w ≤ (x :: a)[t].w := by
                cases t with
                | zero => exact Nat.le_refl _
                | succ t => exact ha'.1 _ (List.getElem_mem ..)
              omega
            · exact h5 h z hz
/-- The first coins of a merged row weigh at most what any first coins of both weigh. -/
theorem mergeC_least : ∀ (a b : List Coin) (i k : Nat), Rise a → Rise b → i ≤ a.length → k ≤ b.length → sumW ((mergeC a b).take (i + k)) ≤ sumW (a.take i) + sumW (b.take k) := by
  intro a
  induction a with
  | nil =>
    intro b i k _ _ hi hk
    have : i = 0 := by simpa using hi
    subst this
    rw [mergeC_nil]; simp [sumW]
  | cons x a iha =>
    intro b
    induction b with
    | nil =>
      intro i k _ _ hi hk
      have : k = 0 := by simpa using hk
      subst this
      rw [mergeC_right]; simp
    | cons y b ihb =>
      intro i k ha hb hi hk
      have ha' := List.pairwise_cons.1 ha
      have hb' := List.pairwise_cons.1 hb
      rw [mergeC_cons]
      by_cases hxy : x.w ≤ y.w
      · rw [if_pos hxy]
        cases i with
        | succ i =>
          rw [show i + 1 + k = (i + k) + 1 by omega, List.take_succ_cons, List.take_succ_cons, sumW_cons, sumW_cons]
          have := iha (y :: b) i k ha'.2 hb (by simpa using hi) hk
          omega
        | zero =>
          cases k with
          | zero => simp [sumW]
          | succ k =>
            rw [Nat.zero_add, List.take_succ_cons, sumW_cons]
            have h1 := iha (y :: b) 0 k ha'.2 hb (by omega) (by omega)
            rw [Nat.zero_add] at h1
            have hk' : k < (y :: b).length := by omega
            have h2 : sumW ((y :: b).take (k + 1)) = sumW ((y :: b).take k) + (y :: b)[k].w := by
              rw [List.take_succ_eq_append_getElem hk', sumW_append]; simp [sumW]
            have h3 : y.w ≤ (y :: b)[k].w := by
              cases k with
              | zero => exact Nat.le_refl _
              | succ k => exact hb'.1 _ (List.getElem_mem ..)
            rw [h2]
            simp only [List.take_zero] at h1 ⊢
            omega
      · rw [if_neg hxy]
        cases k with
        | succ k =>
          rw [show i + (k + 1) = (i + k) + 1 by omega, List.take_succ_cons, List.take_succ_cons, sumW_cons, sumW_cons]
          have := ihb i k ha hb'.2 hi (by simpa using hk)
          omega
        | zero =>
          cases i with
          | zero => simp [sumW]
          | succ i =>
            rw [Nat.add_zero, List.take_succ_cons, sumW_cons]
            have h1 := ihb i 0 ha hb'.2 (by omega) (by omega)
            rw [Nat.add_zero] at h1
            have hi' : i < (x :: a).length := by omega
            have h2 : sumW ((x :: a).take (i + 1)) = sumW ((x :: a).take i) + (x :: a)[i].w := by
              rw [List.take_succ_eq_append_getElem hi', sumW_append]; simp [sumW]
            have h3 : x.w ≤ (x :: a)[i].w := by
              cases i with
              | zero => exact Nat.le_refl _
              | succ i => exact ha'.1 _ (List.getElem_mem ..)
            rw [h2]
            simp only [List.take_zero] at h1 ⊢
            omega
/-- A row is long enough. -/
theorem rowC_length (lv : List Coin) : ∀ (j x : Nat), x * 2 ^ j ≤ 2 * lv.length * (2 ^ j - 1) → x ≤ (rowC lv j).length
  | 0, x, h => by simp at h; omega
  | j + 1, x, h => by
    show x ≤ (mergeC lv (packC (rowC lv j))).length
    rw [mergeC_length, packC_length]
    by_cases hx : x ≤ lv.length
    · omega
    · have hp : 0 < 2 ^ j := Nat.two_pow_pos j
      have := rowC_length lv j (2 * (x - lv.length)) (by
        rw [Nat.pow_succ] at h
        generalize 2 ^ j = p at *
        obtain ⟨y, rfl⟩ : ∃ y, x = lv.length + y := ⟨x - lv.length, by omega⟩
        obtain ⟨q, rfl⟩ : ∃ q, p = q + 1 := ⟨p - 1, by omega⟩
        generalize lv.length = n at *
        have e1 : n + y - n = y := by omega
        rw [e1]
        have e2 : q + 1 - 1 = q := by omega
        rw [e2]
        have e3 : (q + 1) * 2 - 1 = 2 * q + 1 := by omega
        rw [e3] at h
        simp only [Nat.mul_add, Nat.add_mul, Nat.mul_one, Nat.one_mul] at h ⊢
        have p1 : 2 * y * q = 2 * (y * q) := Nat.mul_assoc ..
        have p2 : 2 * n * q = 2 * (n * q) := Nat.mul_assoc ..
        have p3 : n * (q * 2) = 2 * (n * q) := by rw [← Nat.mul_assoc, Nat.mul_comm]
        have p4 : y * (q * 2) = 2 * (y * q) := by rw [← Nat.mul_assoc, Nat.mul_comm]
        have p5 : 2 * n * (2 * q) = 4 * (n * q) := by
          rw [Nat.mul_assoc, Nat.mul_left_comm n 2 q]; omega
        rw [p3, p4, p5] at h
        rw [p1, p2]
        omega)
      omega
/-- What counts leave: the numbers of leaves that the rows take, the outermost first. -/
def amt : List Nat → Nat
  | [] => 0
  | t :: ts => t * 2 ^ ts.length + amt ts
/-- The first coins of a row: which leaves they hold, level by level. -/
theorem row_parts (lv : List Coin) (hr : Rise lv) : ∀ (j c : Nat), c ≤ (rowC lv j).length →
    ∃ ts : List Nat, ts.length = j ∧ (∀ t ∈ ts, t ≤ lv.length) ∧ ts.Pairwise (fun a b => b ≤ a) ∧ 2 * amt ts = c * 2 ^ j ∧
      sumW ((rowC lv j).take c) = (ts.map fun t => sumW (lv.take t)).sum ∧ (∀ s, sumC s ((rowC lv j).take c) = (ts.map fun t => sumC s (lv.take t)).sum) ∧
      (∀ t, ts.head? = some t → ∀ x ∈ lv.take t, x ∈ (rowC lv j).take c)
  | 0, c, h => by
    have : c = 0 := by simpa [rowC] using h
    subst this
    exact ⟨[], rfl, by simp, List.Pairwise.nil, by simp [amt], by simp [sumW], by simp [sumC], by simp⟩
  | j + 1, c, h => by
    have h' : c ≤ lv.length + (packC (rowC lv j)).length := by
      have e : (rowC lv (j + 1)).length = _ := mergeC_length lv (packC (rowC lv j))
      omega
    obtain ⟨t, h1, h2, h3, h4, h5⟩ := mergeC_take lv (packC (rowC lv j)) c hr h'
    have h3' : 2 * (c - t) ≤ (rowC lv j).length := by rw [packC_length] at h3; omega
    obtain ⟨ts, k1, k2, k3, k4, k5, k6, k7⟩ := row_parts lv hr j (2 * (c - t)) h3'
    obtain ⟨q1, q2, q3⟩ := packC_take (c - t) (rowC lv j) h3'
    refine ⟨t :: ts, by simp [k1], ?_, ?_, ?_, ?_, ?_, ?_⟩
    · intro x hx
      rcases List.mem_cons.1 hx with rfl | hx
      · exact h2
      · exact k2 x hx
    · refine List.pairwise_cons.2 ⟨?_, k3⟩
      -- the head of ts is at most t: a leaf used deeper stands in a pack that is used here
      have hh : ∀ u, ts.head? = some u → u ≤ t := by
        intro u hu
        apply Nat.le_of_not_lt
        intro hlt
        have hul : u ≤ lv.length := k2 u (List.mem_of_mem_head? hu)
        have ht : t < lv.length := by omega
        have hm : lv[t] ∈ lv.take u := by
          rw [List.mem_take_iff_getElem]
          exact ⟨t, by omega, rfl⟩
        obtain ⟨y, hy, hyw⟩ := q3 _ (k7 u hu _ hm)
        have := h5 ht y hy
        omega
      intro b hb
      cases ts with
      | nil => simp at hb
      | cons u r =>
        have hu := hh u rfl
        rcases List.mem_cons.1 hb with rfl | hb
        · exact hu
        · exact Nat.le_trans ((List.pairwise_cons.1 k3).1 b hb) hu
    · have e1 : 2 * amt (t :: ts) = 2 * (t * 2 ^ j) + 2 * amt ts := by simp only [amt, k1]; omega
      rw [e1, k4, Nat.pow_succ]
      obtain ⟨d, rfl⟩ : ∃ d, c = t + d := ⟨c - t, by omega⟩
      rw [show t + d - t = d by omega]
      simp only [Nat.add_mul]
      have p1 : t * (2 ^ j * 2) = 2 * (t * 2 ^ j) := by rw [← Nat.mul_assoc, Nat.mul_comm]
      have p2 : d * (2 ^ j * 2) = 2 * (d * 2 ^ j) := by rw [← Nat.mul_assoc, Nat.mul_comm]
      have p3 : 2 * d * 2 ^ j = 2 * (d * 2 ^ j) := Nat.mul_assoc ..
      omega
    · show sumW ((mergeC lv (packC (rowC lv j))).take c) = _
      rw [sumW_perm h4, sumW_append, q1, k5]
      simp
    · intro s
      show sumC s ((mergeC lv (packC (rowC lv j))).take c) = _
      rw [sumC_perm h4, sumC_append, q2, k6]
      simp
    · intro u hu x hx
      simp at hu
      subst hu
      exact h4.symm.mem_iff.1 (List.mem_append.2 (.inl hx))
/-- Whatever is taken, level by level, weighs no less. -/
theorem row_least (lv : List Coin) (hr : Rise lv) : ∀ (as : List (Nat × Nat)) (c : Nat), (∀ p ∈ as, p.1 ≤ lv.length ∧ sumW (lv.take p.1) ≤ p.2) → c * 2 ^ as.length ≤ 2 * amt (as.map Prod.fst) →
    c ≤ (rowC lv as.length).length ∧ sumW ((rowC lv as.length).take c) ≤ (as.map Prod.snd).sum
  | [], c, _, h => by
    have : c = 0 := by simpa [amt] using h
    subst this
    simp [sumW]
  | (a, x) :: as, c, hp, h => by
    obtain ⟨ha, hx⟩ := hp (a, x) List.mem_cons_self
    have ha : a ≤ lv.length := ha
    have hx : sumW (lv.take a) ≤ x := hx
    have hl : ((a, x) :: as).length = as.length + 1 := rfl
    rw [hl] at h ⊢
    have hmap : amt (((a, x) :: as).map Prod.fst) = a * 2 ^ as.length + amt (as.map Prod.fst) := by simp [amt]
    rw [hmap, Nat.pow_succ] at h
    show c ≤ (mergeC lv (packC (rowC lv as.length))).length ∧ sumW ((mergeC lv (packC (rowC lv as.length))).take c) ≤ x + (as.map Prod.snd).sum
    rw [mergeC_length]
    by_cases hac : c ≤ a
    · refine ⟨by omega, ?_⟩
      have h1 := mergeC_least lv (packC (rowC lv as.length)) c 0 hr (packC_rise (rowC_rise hr _)) (by omega) (by omega)
      have h2 : sumW (lv.take c) ≤ sumW (lv.take a) := by
        obtain ⟨d, rfl⟩ : ∃ d, a = c + d := ⟨a - c, by omega⟩
        rw [List.take_add, sumW_append]
        omega
      simp [sumW] at h1 h2 hx ⊢
      omega
    · obtain ⟨d, rfl⟩ : ∃ d, c = a + d := ⟨c - a, by omega⟩
      have hih : (2 * d) * 2 ^ as.length ≤ 2 * amt (as.map Prod.fst) := by
        have p1 : (a + d) * (2 ^ as.length * 2) = 2 * (a * 2 ^ as.length) + 2 * (d * 2 ^ as.length) := by
          rw [← Nat.mul_assoc, Nat.add_mul]; omega
        have p3 : 2 * d * 2 ^ as.length = 2 * (d * 2 ^ as.length) := Nat.mul_assoc ..
        omega
      obtain ⟨i1, i2⟩ := row_least lv hr as (2 * d) (fun p hq => hp p (List.mem_cons_of_mem _ hq)) hih
      obtain ⟨q1, _, _⟩ := packC_take d (rowC lv as.length) i1
      have hd : d ≤ (packC (rowC lv as.length)).length := by rw [packC_length]; omega
      have h1 := mergeC_least lv (packC (rowC lv as.length)) a d hr (packC_rise (rowC_rise hr _)) ha hd
      refine ⟨by omega, ?_⟩
      omega
end Go.Proofs.YtdehkaknbmbieaaGreat
