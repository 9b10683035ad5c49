/- Package merge (plain): the lengths: they are whole, none above the limit, fall as the weights rise, and cost the least. -/
import Derived.Test.YtdehkaknbmbieaaGreatPkgP
namespace Go.Proofs.YtdehkaknbmbieaaGreat
set_option linter.unusedVariables false
set_option linter.unusedSimpArgs false
set_option linter.unusedSectionVars false

/-- How many of the levels take the coin at place i. -/
def cntL (ts : List Nat) (i : Nat) : Nat := ts.countP fun t => decide (i < t)
theorem cntL_nil (i : Nat) : cntL [] i = 0 := rfl
theorem cntL_cons (t : Nat) (ts : List Nat) (i : Nat) : cntL (t :: ts) i = cntL ts i + if i < t then 1 else 0 := by
  unfold cntL
  rw [List.countP_cons]
  simp
theorem cntL_le (ts : List Nat) (i : Nat) : cntL ts i ≤ ts.length := List.countP_le_length
theorem cntL_zero {ts : List Nat} {i : Nat} (h : ∀ t ∈ ts, t ≤ i) : cntL ts i = 0 := by
  unfold cntL
  rw [List.countP_eq_zero]
  intro t ht
  simpa using h t ht
theorem cntL_fall (ts : List Nat) {i k : Nat} (h : i ≤ k) : cntL ts k ≤ cntL ts i := by
  unfold cntL
  apply List.countP_mono_left
  intro t _ ht
  simp at ht ⊢
  omega
/-- A sum over places. -/
def sumN (n : Nat) (f : Nat → Nat) : Nat := ((List.range n).map f).sum
theorem sumN_succ (n : Nat) (f : Nat → Nat) : sumN (n + 1) f = sumN n f + f n := by simp [sumN, List.range_succ]
theorem sumN_congr {n : Nat} {f g : Nat → Nat} (h : ∀ i, i < n → f i = g i) : sumN n f = sumN n g := by
  induction n with
  | zero => rfl
  | succ n ih => rw [sumN_succ, sumN_succ, ih (fun i hi => h i (by omega)), h n (by omega)]
theorem sumN_const (n a : Nat) : sumN n (fun _ => a) = n * a := by
  induction n with
  | zero => simp [sumN]
  | succ n ih => rw [sumN_succ, ih, Nat.succ_mul]
/-- What the rows leave and what the codes need are all there is. -/
theorem kraft_ts (n : Nat) : ∀ (ts : List Nat), (∀ t ∈ ts, t ≤ n) → ts.Pairwise (fun a b => b ≤ a) → sumN n (fun i => 2 ^ (ts.length - cntL ts i)) + amt ts = n * 2 ^ ts.length
  | [], _, _ => by
    simp only [amt, List.length_nil, cntL_nil, Nat.sub_self, Nat.pow_zero, sumN_const]
    omega
  | t :: ts, h1, h2 => by
    have ht : t ≤ n := h1 t List.mem_cons_self
    have h2' := List.pairwise_cons.1 h2
    have ih := kraft_ts n ts (fun x hx => h1 x (List.mem_cons_of_mem _ hx)) h2'.2
    have e : ∀ m, m ≤ n → sumN m (fun i => 2 ^ ((t :: ts).length - cntL (t :: ts) i)) = sumN m (fun i => 2 ^ (ts.length - cntL ts i)) + (m - t) * 2 ^ ts.length := by
      intro m
      induction m with
      | zero => intro _; simp [sumN]
      | succ m ihm =>
        intro hm
        rw [sumN_succ, sumN_succ, ihm (by omega), cntL_cons, List.length_cons]
        by_cases hlt : m < t
        · rw [if_pos hlt, show m - t = 0 by omega, show m + 1 - t = 0 by omega, show ts.length + 1 - (cntL ts m + 1) = ts.length - cntL ts m by omega]
          omega
        · rw [if_neg hlt, cntL_zero (i := m) (fun x hx => Nat.le_trans (h2'.1 x hx) (by omega)), show m + 1 - t = (m - t) + 1 by omega, Nat.succ_mul]
          simp only [Nat.add_zero, Nat.sub_zero, Nat.pow_succ]
          omega
    rw [e n (Nat.le_refl _)]
    simp only [amt, List.length_cons, Nat.pow_succ]
    have p1 : n * (2 ^ ts.length * 2) = n * 2 ^ ts.length + n * 2 ^ ts.length := by rw [← Nat.mul_assoc]; omega
    have p2 : (n - t) * 2 ^ ts.length + t * 2 ^ ts.length = n * 2 ^ ts.length := by
      rw [← Nat.add_mul, show n - t + t = n by omega]
    omega
/-- The cost, counted both ways. -/
theorem cost_ts (n : Nat) (v : Nat → Nat) (S : Nat → Nat) (hS : ∀ t, t ≤ n → S t = sumN t v) : ∀ (ts : List Nat), (∀ t ∈ ts, t ≤ n) → (ts.map S).sum = sumN n (fun i => v i * cntL ts i)
  | [], _ => by simp [cntL_nil, sumN_const]
  | t :: ts, h => by
    have ih := cost_ts n v S hS ts (fun x hx => h x (List.mem_cons_of_mem _ hx))
    have ht : t ≤ n := h t List.mem_cons_self
    rw [List.map_cons, List.sum_cons, ih, hS t ht]
    have e : ∀ m, m ≤ n → sumN m (fun i => v i * cntL (t :: ts) i) = sumN (min m t) v + sumN m (fun i => v i * cntL ts i) := by
      intro m
      induction m with
      | zero => intro _; simp [sumN]
      | succ m ihm =>
        intro hm
        rw [sumN_succ, sumN_succ, ihm (by omega), cntL_cons]
        by_cases hlt : m < t
        · rw [if_pos hlt, show min (m + 1) t = m + 1 by omega, show min m t = m by omega, sumN_succ, Nat.mul_add]
          omega
        · rw [if_neg hlt, show min (m + 1) t = t by omega, show min m t = t by omega, Nat.add_zero]
          omega
    rw [e n (Nat.le_refl _), Nat.min_eq_right ht]

/-- A sublist of a rising row weighs no less than so many from the begin. -/
theorem sub_least {s l : List Coin} (h : s.Sublist l) (hr : Rise l) : sumW (l.take s.length) ≤ sumW s := by
  induction h with
  | slnil => exact Nat.le_refl _
  | @cons s l x hs ih =>
    have hr' := List.pairwise_cons.1 hr
    have ih := ih hr'.2
    cases hk : s.length with
    | zero => simp [sumW]
    | succ k =>
      rw [hk] at ih
      have hkl : k < l.length := by have := hs.length_le; omega
      rw [List.take_succ_eq_append_getElem hkl, sumW_append] at ih
      rw [List.take_succ_cons, sumW_cons]
      have h1 := hr'.1 _ (List.getElem_mem hkl)
      have h2 : sumW [l[k]] = l[k].w := by simp [sumW]
      omega
  | @cons_cons s l x hs ih =>
    have ih := ih (List.pairwise_cons.1 hr).2
    rw [List.length_cons, List.take_succ_cons, sumW_cons, sumW_cons]
    omega

/-- Leaves with lengths: what each level takes. -/
def lvls : Nat → List (Coin × Nat) → List (Nat × Nat)
  | 0, _ => []
  | L + 1, ps => (((ps.filter fun p => decide (0 < p.2)).length), ((ps.filter fun p => decide (0 < p.2)).map fun p => p.1.w).sum) :: lvls L (ps.map fun p => (p.1, p.2 - 1))
theorem lvls_length : ∀ (L : Nat) (ps : List (Coin × Nat)), (lvls L ps).length = L
  | 0, _ => rfl
  | L + 1, ps => by rw [lvls, List.length_cons, lvls_length L]
theorem lvls_amt : ∀ (L : Nat) (ps : List (Coin × Nat)), (∀ p ∈ ps, p.2 ≤ L) → amt ((lvls L ps).map Prod.fst) + (ps.map fun p => 2 ^ (L - p.2)).sum = ps.length * 2 ^ L
  | 0, ps, h => by
    simp only [lvls, List.map_nil, amt, Nat.zero_sub, Nat.pow_zero, Nat.mul_one, Nat.zero_add]
    induction ps with
    | nil => rfl
    | cons p ps ih => rw [List.map_cons, List.sum_cons, ih (fun q hq => h q (List.mem_cons_of_mem _ hq)), List.length_cons]; omega
  | L + 1, ps, h => by
    have ih := lvls_amt L (ps.map fun p => (p.1, p.2 - 1)) (fun p hp => by
      obtain ⟨q, hq, rfl⟩ := List.mem_map.1 hp
      have := h q hq
      show q.2 - 1 ≤ L
      omega)
    rw [List.length_map, List.map_map] at ih
    have e : (ps.map fun p => 2 ^ (L + 1 - p.2)).sum + (ps.filter fun p => decide (0 < p.2)).length * 2 ^ L = (ps.map ((fun p : Coin × Nat => 2 ^ (L - p.2)) ∘ fun p => (p.1, p.2 - 1))).sum + ps.length * 2 ^ L := by
      clear ih
      induction ps with
      | nil => rfl
      | cons p ps ih =>
        have ih := ih (fun q hq => h q (List.mem_cons_of_mem _ hq))
        have hp := h p List.mem_cons_self
        simp only [List.map_cons, List.sum_cons, List.length_cons, List.filter_cons, Function.comp_apply, Nat.succ_mul]
        by_cases h0 : 0 < p.2
        · rw [if_pos (by simpa using h0), List.length_cons, Nat.succ_mul, show L - (p.2 - 1) = L + 1 - p.2 by omega]
          omega
        · have hz : p.2 = 0 := by omega
          rw [if_neg (by simpa using h0), hz]
          simp only [Nat.sub_zero, Nat.zero_sub, Nat.pow_succ]
          omega
    rw [lvls, List.map_cons]
    simp only [amt, List.length_map, lvls_length]
    rw [Nat.pow_succ]
    have p1 : ps.length * (2 ^ L * 2) = ps.length * 2 ^ L + ps.length * 2 ^ L := by rw [← Nat.mul_assoc]; omega
    omega
theorem lvls_sum : ∀ (L : Nat) (ps : List (Coin × Nat)), (∀ p ∈ ps, p.2 ≤ L) → ((lvls L ps).map Prod.snd).sum = (ps.map fun p => p.1.w * p.2).sum
  | 0, ps, h => by
    simp only [lvls, List.map_nil, List.sum_nil]
    induction ps with
    | nil => rfl
    | cons p ps ih =>
      have := h p List.mem_cons_self
      rw [List.map_cons, List.sum_cons, ← ih (fun q hq => h q (List.mem_cons_of_mem _ hq)), show p.2 = 0 by omega]
      omega
  | L + 1, ps, h => by
    have ih := lvls_sum L (ps.map fun p => (p.1, p.2 - 1)) (fun p hp => by
      obtain ⟨q, hq, rfl⟩ := List.mem_map.1 hp
      have := h q hq
      show q.2 - 1 ≤ L
      omega)
    rw [lvls, List.map_cons, List.sum_cons, ih]
    clear ih
    rw [List.map_map]
    show ((ps.filter fun p => decide (0 < p.2)).map fun p => p.1.w).sum + _ = _
    induction ps with
    | nil => rfl
    | cons p ps ih =>
      have ih := ih (fun q hq => h q (List.mem_cons_of_mem _ hq))
      simp only [List.map_cons, List.sum_cons, List.filter_cons, Function.comp_apply]
      by_cases h0 : 0 < p.2
      · rw [if_pos (by simpa using h0), List.map_cons, List.sum_cons]
        obtain ⟨k, hk⟩ : ∃ k, p.2 = k + 1 := ⟨p.2 - 1, by omega⟩
        rw [hk, Nat.add_sub_cancel, Nat.mul_succ]
        omega
      · have hz : p.2 = 0 := by omega
        rw [if_neg (by simpa using h0), hz]
        omega
theorem lvls_ok (lv : List Coin) (hr : Rise lv) : ∀ (L : Nat) (ps : List (Coin × Nat)), ps.map Prod.fst = lv → ∀ q ∈ lvls L ps, q.1 ≤ lv.length ∧ sumW (lv.take q.1) ≤ q.2
  | 0, _, _, q, hq => by simp [lvls] at hq
  | L + 1, ps, hps, q, hq => by
    rw [lvls] at hq
    rcases List.mem_cons.1 hq with rfl | hq
    · have hs : ((ps.filter fun p => decide (0 < p.2)).map Prod.fst).Sublist lv := by
        rw [← hps]
        exact List.Sublist.map _ List.filter_sublist
      have h1 := sub_least hs hr
      have h2 := hs.length_le
      rw [List.length_map] at h1 h2
      refine ⟨h2, Nat.le_trans h1 ?_⟩
      simp [sumW]
      exact Nat.le_refl _
    · exact lvls_ok lv hr L _ (by rw [List.map_map, ← hps]; rfl) q hq
/-- **No lengths cost less than the first 2n - 2 coins of the last row weigh.** -/
theorem pkg_least (lv : List Coin) (hr : Rise lv) (L : Nat) (ps : List (Coin × Nat)) (hps : ps.map Prod.fst = lv) (hle : ∀ p ∈ ps, p.2 ≤ L) (hk : (ps.map fun p => 2 ^ (L - p.2)).sum ≤ 2 ^ L) :
    sumW ((rowC lv L).take (2 * lv.length - 2)) ≤ (ps.map fun p => p.1.w * p.2).sum := by
  have h1 := lvls_amt L ps hle
  have hl : ps.length = lv.length := by rw [← hps, List.length_map]
  have h2 := row_least lv hr (lvls L ps) (2 * lv.length - 2) (lvls_ok lv hr L ps hps) (by
    rw [lvls_length]
    cases hn : lv.length with
    | zero => simp
    | succ n =>
      rw [hl, hn, Nat.succ_mul] at h1
      rw [show 2 * (n + 1) - 2 = 2 * n by omega, Nat.mul_assoc]
      omega)
  rw [lvls_length, lvls_sum L ps hle] at h2
  exact h2.2
/-- **The lengths of package merge.** -/
theorem pkg_fit (lv : List Coin) (hr : Rise lv) (L : Nat) (hn : 2 ≤ lv.length) (hL : lv.length ≤ 2 ^ L) :
    2 * lv.length - 2 ≤ (rowC lv L).length ∧ ∃ ts : List Nat, ts.length = L ∧ (∀ t ∈ ts, t ≤ lv.length) ∧ sumN lv.length (fun i => 2 ^ (L - cntL ts i)) = 2 ^ L ∧ (∀ i, i < lv.length → 1 ≤ cntL ts i ∧ cntL ts i ≤ L) ∧
      sumW ((rowC lv L).take (2 * lv.length - 2)) = sumN lv.length (fun i => (lv.getD i (.leaf 0 0)).w * cntL ts i) ∧ ∀ s, sumC s ((rowC lv L).take (2 * lv.length - 2)) = sumN lv.length (fun i => (lv.getD i (.leaf 0 0)).cnt s * cntL ts i) := by
  have hlen : 2 * lv.length - 2 ≤ (rowC lv L).length := rowC_length lv L _ (by
    obtain ⟨m, hm⟩ : ∃ m, lv.length = m + 2 := ⟨lv.length - 2, by omega⟩
    rw [hm] at hL ⊢
    obtain ⟨q, hq⟩ : ∃ q, 2 ^ L = q + 1 := ⟨2 ^ L - 1, by omega⟩
    rw [hq] at hL ⊢
    rw [show 2 * (m + 2) - 2 = 2 * m + 2 by omega, show q + 1 - 1 = q by omega]
    simp only [Nat.mul_add, Nat.add_mul]
    omega)
  obtain ⟨ts, h1, h2, h3, h4, h5, h6, _⟩ := row_parts lv hr L _ hlen
  have hk := kraft_ts lv.length ts h2 h3
  rw [h1] at hk
  have hkr : sumN lv.length (fun i => 2 ^ (L - cntL ts i)) = 2 ^ L := by
    obtain ⟨m, hm⟩ : ∃ m, lv.length = m + 1 := ⟨lv.length - 1, by omega⟩
    rw [hm] at h4 hk ⊢
    rw [show 2 * (m + 1) - 2 = 2 * m by omega, Nat.mul_assoc] at h4
    rw [Nat.succ_mul] at hk
    omega
  have takeW : ∀ (f : Coin → Nat) (t : Nat), t ≤ lv.length → ((lv.take t).map f).sum = sumN t (fun i => f (lv.getD i (.leaf 0 0))) := by
    intro f t
    induction t with
    | zero => intro _; rfl
    | succ t ih =>
      intro ht
      rw [List.take_succ_eq_append_getElem (by omega), List.map_append, List.sum_append_nat, ih (by omega), sumN_succ]
      simp [List.getD_eq_getElem?_getD, List.getElem?_eq_getElem (show t < lv.length by omega)]
  refine ⟨hlen, ts, h1, h2, hkr, ?_, ?_, ?_⟩
  · intro i hi
    refine ⟨?_, by rw [← h1]; exact cntL_le ts i⟩
    apply Nat.pos_of_ne_zero
    intro h0
    -- a code of no bits would need all the room
    have hpos : ∀ m, m ≤ lv.length → (i < m → 2 ^ L + (m - 1) ≤ sumN m (fun i => 2 ^ (L - cntL ts i))) ∧ m ≤ sumN m (fun i => 2 ^ (L - cntL ts i)) := by
      intro m
      induction m with
      | zero => intro _; exact ⟨fun h => by omega, Nat.zero_le _⟩
      | succ m ih =>
        intro hm
        obtain ⟨i1, i2⟩ := ih (by omega)
        rw [sumN_succ]
        have hp : 0 < 2 ^ (L - cntL ts m) := Nat.two_pow_pos _
        refine ⟨fun h => ?_, by omega⟩
        by_cases e : i = m
        · subst e
          rw [h0, Nat.sub_zero]
          omega
        · have := i1 (by omega)
          omega
    have := (hpos lv.length (Nat.le_refl _)).1 hi
    omega
  · rw [h5]
    exact cost_ts lv.length (fun i => (lv.getD i (.leaf 0 0)).w) _ (fun t ht => takeW Coin.w t ht) ts h2
  · intro s
    rw [h6]
    exact cost_ts lv.length (fun i => (lv.getD i (.leaf 0 0)).cnt s) _ (fun t ht => takeW (Coin.cnt s) t ht) ts h2
end Go.Proofs.YtdehkaknbmbieaaGreat
namespace Go.Proofs.YtdehkaknbmbieaaGreat
set_option linter.unusedVariables false
set_option linter.unusedSimpArgs false
set_option linter.unusedSectionVars false

def roomP (limit : Nat) (ks : List Nat) : Nat := (ks.map fun k => 2 ^ (limit - k)).sum
theorem roomP_cons (limit k : Nat) (ks : List Nat) : roomP limit (k :: ks) = 2 ^ (limit - k) + roomP limit ks := by simp [roomP]
end Go.Proofs.YtdehkaknbmbieaaGreat
namespace Go.Proofs.YtdehkaknbmbieaaGreat
set_option linter.unusedVariables false
set_option linter.unusedSimpArgs false
set_option linter.unusedSectionVars false

/-- The nearer one of two limits. -/
def nearN (n : Int) : Nat := (max 0 (min n 1073741824)).toNat
theorem nearN_le (n : Int) : nearN n ≤ 1073741824 := by unfold nearN; omega
/-- Which symbol stands ahead. -/
def Ahead (many : List Int) (a b : Nat) : Prop := nearN (many.getD a 0) < nearN (many.getD b 0) ∨ (nearN (many.getD a 0) = nearN (many.getD b 0) ∧ a < b)
theorem Ahead.irrefl {many : List Int} {a : Nat} : ¬ Ahead many a a := fun h => by rcases h with h | h <;> omega
theorem Ahead.asymm {many : List Int} {a b : Nat} (h : Ahead many a b) : ¬ Ahead many b a := fun k => by
  rcases h with h | h <;> rcases k with k | k <;> omega
theorem Ahead.ne {many : List Int} {a b : Nat} (h : Ahead many a b) : a ≠ b := fun e => by subst e; exact h.irrefl
theorem Ahead.trans {many : List Int} {a b c : Nat} (h : Ahead many a b) (k : Ahead many b c) : Ahead many a c := by
  unfold Ahead at *; omega
/-- The symbols below n that are used, in their order. -/
structure IsUsed (many : List Int) (n : Nat) (u : List Nat) : Prop where
  mem : ∀ i, i ∈ u ↔ i < n ∧ 0 < many.getD i 0
  srt : u.Pairwise (Ahead many)
theorem srt_uniq (many : List Int) : ∀ (u v : List Nat), u.Pairwise (Ahead many) → v.Pairwise (Ahead many) → (∀ i, i ∈ u ↔ i ∈ v) → u = v
  | [], [], _, _, _ => rfl
  | [], y :: v, _, _, h => absurd ((h y).2 List.mem_cons_self) (by simp)
  | x :: u, [], _, _, h => absurd ((h x).1 List.mem_cons_self) (by simp)
  | x :: u, y :: v, hu, hv, h => by
    have hu' := List.pairwise_cons.1 hu
    have hv' := List.pairwise_cons.1 hv
    have e : x = y := by
      rcases List.mem_cons.1 ((h x).1 List.mem_cons_self) with e | hx
      · exact e
      · rcases List.mem_cons.1 ((h y).2 List.mem_cons_self) with e | hy
        · exact e.symm
        · exact absurd (hu'.1 y hy) (hv'.1 x hx).asymm
    subst e
    rw [srt_uniq many u v hu'.2 hv'.2 fun i => ?_]
    constructor
    · intro hi
      rcases List.mem_cons.1 ((h i).1 (List.mem_cons_of_mem _ hi)) with e | hi'
      · exact absurd e.symm (hu'.1 i hi).ne
      · exact hi'
    · intro hi
      rcases List.mem_cons.1 ((h i).2 (List.mem_cons_of_mem _ hi)) with e | hi'
      · exact absurd e.symm (hv'.1 i hi).ne
      · exact hi'
theorem IsUsed.uniq {many : List Int} {n : Nat} {u v : List Nat} (h : IsUsed many n u) (k : IsUsed many n v) : u = v :=
  srt_uniq many u v h.srt k.srt fun i => (h.mem i).trans (k.mem i).symm
theorem IsUsed.nodup {many : List Int} {n : Nat} {u : List Nat} (h : IsUsed many n u) : u.Nodup := h.srt.imp Ahead.ne
theorem perm_range {n : Nat} {u : List Nat} (hnd : u.Nodup) (hlt : ∀ s ∈ u, s < n) : u.Perm ((List.range n).filter fun s => decide (s ∈ u)) := by
  rw [List.perm_ext_iff_of_nodup hnd (List.nodup_range.filter _)]
  intro s
  rw [List.mem_filter, List.mem_range]
  simp only [decide_eq_true_eq]
  exact ⟨fun h => ⟨hlt s h, h⟩, fun h => h.2⟩
theorem IsUsed.le {many : List Int} {n : Nat} {u : List Nat} (h : IsUsed many n u) : u.length ≤ n := by
  have h1 := (perm_range h.nodup fun i hi => ((h.mem i).1 hi).1).length_eq
  have h2 := List.length_filter_le (fun s => decide (s ∈ u)) (List.range n)
  rw [List.length_range] at h2
  omega
theorem IsUsed.nil (many : List Int) : IsUsed many 0 [] := ⟨fun i => by simp, List.Pairwise.nil⟩
theorem IsUsed.skip {many : List Int} {n : Nat} {u : List Nat} (h : IsUsed many n u) (hn : ¬ 0 < many.getD n 0) : IsUsed many (n + 1) u :=
  ⟨fun i => by
    rw [h.mem]
    by_cases e : i = n
    · subst e; constructor
      · intro k; omega
      · intro k; exact absurd k.2 hn
    · constructor <;> intro k <;> exact ⟨by omega, k.2⟩, h.srt⟩
/-- The leaves. -/
def lvs (many : List Int) (u : List Nat) : List Coin := u.map fun s => .leaf (nearN (many.getD s 0)) s
theorem lvs_len (many : List Int) (u : List Nat) : (lvs many u).length = u.length := by simp [lvs]
theorem lvs_rise {many : List Int} {u : List Nat} (h : u.Pairwise (Ahead many)) : Rise (lvs many u) := by
  unfold Rise lvs
  rw [List.pairwise_map]
  exact h.imp fun hab => by
    unfold Ahead at hab
    show nearN _ ≤ nearN _
    omega
/-- The length of a symbol. -/
def lenAt (many : List Int) (u : List Nat) (L s : Nat) : Nat := sumC s ((rowC (lvs many u) L).take (2 * u.length - 2))
/-- A sum over all, of what is nought but at some. -/
theorem sum_off (n : Nat) (g : Nat → Nat) (u : List Nat) (hnd : u.Nodup) (hlt : ∀ s ∈ u, s < n) (h0 : ∀ s, s < n → s ∉ u → g s = 0) : sumN n g = (u.map g).sum := by
  rw [((perm_range hnd hlt).map g).sum_nat]
  unfold sumN
  have : ∀ l : List Nat, (∀ s ∈ l, s < n) → (l.map g).sum = ((l.filter fun s => decide (s ∈ u)).map g).sum := by
    intro l
    induction l with
    | nil => intro _; rfl
    | cons x r ih =>
      intro hl
      rw [List.map_cons, List.sum_cons, ih fun s hs => hl s (List.mem_cons_of_mem _ hs), List.filter_cons]
      by_cases hx : x ∈ u
      · rw [if_pos (by simpa using hx), List.map_cons, List.sum_cons]
      · rw [if_neg (by simpa using hx), h0 x (hl x List.mem_cons_self) hx]; omega
  exact this _ fun s hs => List.mem_range.1 hs
theorem sum_at (u : List Nat) (g : Nat → Nat) : (u.map g).sum = sumN u.length (fun i => g (u.getD i 0)) := by
  have h : ∀ m, m ≤ u.length → ((u.take m).map g).sum = sumN m (fun i => g (u.getD i 0)) := by
    intro m
    induction m with
    | zero => intro _; rfl
    | succ m ih =>
      intro hm
      rw [List.take_succ_eq_append_getElem (by omega), List.map_append, List.sum_append_nat, ih (by omega), sumN_succ]
      simp [List.getD_eq_getElem?_getD, List.getElem?_eq_getElem (show m < u.length by omega)]
  have h1 := h u.length (Nat.le_refl _)
  rwa [List.take_length] at h1
/-- **The lengths that package merge has.** -/
theorem len_fit (many : List Int) (u : List Nat) (L : Nat) (hs : u.Pairwise (Ahead many)) (h2 : 2 ≤ u.length) (hL : u.length ≤ 2 ^ L) :
    2 * u.length - 2 ≤ (rowC (lvs many u) L).length ∧ ∃ c : Nat → Nat, (∀ i, i < u.length → 1 ≤ c i ∧ c i ≤ L) ∧ (∀ i k, i ≤ k → c k ≤ c i) ∧ sumN u.length (fun i => 2 ^ (L - c i)) = 2 ^ L ∧
      (∀ i (h : i < u.length), lenAt many u L u[i] = c i) ∧ (∀ s, s ∉ u → lenAt many u L s = 0) ∧
      ∀ ks : List Nat, ks.length = u.length → (∀ k ∈ ks, k ≤ L) → roomP L ks ≤ 2 ^ L → sumN u.length (fun i => nearN (many.getD (u.getD i 0) 0) * c i) ≤ sumN u.length (fun i => nearN (many.getD (u.getD i 0) 0) * ks.getD i 0) := by
  have hr := lvs_rise hs
  have hnd : u.Nodup := hs.imp Ahead.ne
  have hl := lvs_len many u
  obtain ⟨h1, ts, t1, t2, t3, t4, t5, t6⟩ := pkg_fit (lvs many u) hr L (by omega) (by omega)
  rw [hl] at h1 t3 t4 t5 t6
  have hlv : ∀ i, i < u.length → (lvs many u).getD i (.leaf 0 0) = .leaf (nearN (many.getD (u.getD i 0) 0)) (u.getD i 0) := by
    intro i hi
    simp [lvs, List.getD_eq_getElem?_getD, hi]
  refine ⟨h1, cntL ts, t4, fun i k hik => cntL_fall ts hik, t3, ?_, ?_, ?_⟩
  · intro i hi
    unfold lenAt
    rw [t6]
    have e : ∀ m, m ≤ u.length → sumN m (fun k => ((lvs many u).getD k (.leaf 0 0)).cnt u[i] * cntL ts k) = if i < m then cntL ts i else 0 := by
      intro m
      induction m with
      | zero => intro _; simp [sumN]
      | succ m ih =>
        intro hm
        rw [sumN_succ, ih (by omega), hlv m (by omega)]
        have hg : u.getD m 0 = u[m] := by rw [List.getD_eq_getElem?_getD, List.getElem?_eq_getElem (by omega)]; rfl
        rw [hg]
        simp only [Coin.cnt]
        by_cases e : i = m
        · subst e
          simp
        · have hne : ¬ u[m] = u[i] := fun q => e ((List.getElem_inj hnd).1 q.symm)
          by_cases h : i < m
          · simp [hne, h, show i < m + 1 by omega]
          · simp [hne, h, show ¬ i < m + 1 by omega]
    rw [e _ (Nat.le_refl _), if_pos hi]
  · intro s hs
    unfold lenAt
    rw [t6]
    have e : sumN u.length (fun k => ((lvs many u).getD k (.leaf 0 0)).cnt s * cntL ts k) = sumN u.length (fun _ => 0) := sumN_congr fun i hi => by
      rw [hlv i hi]
      simp only [Coin.cnt]
      have hg : u.getD i 0 = u[i] := by rw [List.getD_eq_getElem?_getD, List.getElem?_eq_getElem hi]; rfl
      rw [hg, if_neg (fun q => hs (by rw [← q]; exact List.getElem_mem hi)), Nat.zero_mul]
    rw [e, sumN_const, Nat.mul_zero]
  · intro ks k1 k2 k3
    have h := pkg_least (lvs many u) hr L ((lvs many u).zip ks) (by rw [List.map_fst_zip (by omega)]) (fun p hp => k2 p.2 (List.of_mem_zip hp).2) (by
      have e : ((lvs many u).zip ks).map (fun p => 2 ^ (L - p.2)) = ks.map fun k => 2 ^ (L - k) := by
        rw [show (fun p : Coin × Nat => 2 ^ (L - p.2)) = (fun k => 2 ^ (L - k)) ∘ Prod.snd from rfl, ← List.map_map, List.map_snd_zip (by omega)]
      rw [e]
      exact k3)
    rw [hl, t5] at h
    have e1 : sumN u.length (fun i => ((lvs many u).getD i (.leaf 0 0)).w * cntL ts i) = sumN u.length (fun i => nearN (many.getD (u.getD i 0) 0) * cntL ts i) := sumN_congr fun i hi => by rw [hlv i hi]; rfl
    rw [e1] at h
    have e2 : (((lvs many u).zip ks).map fun p => p.1.w * p.2).sum = sumN u.length (fun i => nearN (many.getD (u.getD i 0) 0) * ks.getD i 0) := by
      have : ∀ m, m ≤ u.length → ((((lvs many u).zip ks).take m).map fun p => p.1.w * p.2).sum = sumN m (fun i => nearN (many.getD (u.getD i 0) 0) * ks.getD i 0) := by
        intro m
        induction m with
        | zero => intro _; rfl
        | succ m ih =>
          intro hm
          have hz : m < ((lvs many u).zip ks).length := by rw [List.length_zip, hl, k1]; omega
          rw [List.take_succ_eq_append_getElem hz, List.map_append, List.sum_append_nat, ih (by omega), sumN_succ, List.getElem_zip]
          have hv := hlv m (by omega)
          rw [List.getD_eq_getElem?_getD, List.getElem?_eq_getElem (by omega)] at hv
          simp only [Option.getD_some] at hv
          rw [hv]
          simp [Coin.w, List.getD_eq_getElem?_getD, List.getElem?_eq_getElem (show m < ks.length by omega)]
      have h := this u.length (Nat.le_refl _)
      rwa [List.take_of_length_le (by rw [List.length_zip, hl, k1]; omega)] at h
    rw [e2] at h
    exact h
end Go.Proofs.YtdehkaknbmbieaaGreat
