/- Plain mathematics of codes of unlike lengths: how many symbols have each length, their sum, the first codes, the codes. -/
import Derived.Test.YtdehkaknbmbieaaGreatQAD
import Derived.Test.YtdehkaknbmbieaaGreatRows
import Derived.WalkKit
import Derived.Handy
import Derived.Lib.MinMax
import Derived.IntWalk
import Derived.BigQuiet
import Derived.StillTailTactics
import Derived.Deep.QuietTactic
import Derived.Deep.RegionHeld3
import Derived.Deep.RegionLaw
import Derived.Deep.DeepCutAuto
import Derived.Deep.DeepFit
import Derived.Deep.LoopGhost
import Derived.Deep.Light
import Derived.Deep.CutBlock
import Derived.Laws.BitsAllLaws
import Derived.Outline
import Derived.WalkSpells
import Derived.Lib.Hide
import Derived.Test.YtdehkaknbmbieaaGreatQAC
namespace Go.Proofs.YtdehkaknbmbieaaGreat
set_option linter.unusedVariables false
set_option linter.unusedSimpArgs false
set_option linter.unusedSectionVars false

/-- May lengths be? -/
def okLens (l : List Int) : Bool := decide (l.length ≤ 300) && l.all fun k => decide (0 ≤ k) && decide (k ≤ 15)
def nats (l : List Int) : List Nat := l.map Int.toNat
theorem okLens_spec {l : List Int} (h : okLens l = true) : l.length ≤ 300 ∧ ∀ k ∈ l, 0 ≤ k ∧ k ≤ 15 := by
  simp only [okLens, Bool.and_eq_true, decide_eq_true_eq, List.all_eq_true] at h
  exact h
theorem okLens_mk {l : List Int} (h1 : l.length ≤ 300) (h2 : ∀ k ∈ l, 0 ≤ k ∧ k ≤ 15) : okLens l = true := by
  simp only [okLens, Bool.and_eq_true, decide_eq_true_eq, List.all_eq_true]
  exact ⟨h1, h2⟩
theorem length_nats (l : List Int) : (nats l).length = l.length := by simp [nats]

/-- How many symbols have length k (0: none is counted). -/
def cnt (n : List Nat) (k : Nat) : Nat := if k = 0 then 0 else n.count k
def wt (x : Nat) : Nat := if x = 0 then 0 else 2 ^ (15 - x)
def wsum (n : List Nat) : Nat := (n.map wt).sum
def psum (n : List Nat) : Nat → Nat
  | 0 => 0
  | k + 1 => psum n k + cnt n k * 2 ^ (15 - k)
def kindN (n : List Nat) : Nat := if wsum n = 0 then 0 else if wsum n < 32768 then 2 else if wsum n = 32768 then 1 else 3
def kindOf (l : List Int) : Nat := if okLens l then kindN (nats l) else 3
def fst (n : List Nat) : Nat → Nat
  | 0 => 0
  | k + 1 => 2 * (fst n k + cnt n k)
/-- The code of symbol i. -/
def codeAt (n : List Nat) (i : Nat) : Nat := if n.getD i 0 = 0 then 0 else fst n (n.getD i 0) + (n.take i).count (n.getD i 0)
def codes (n : List Nat) : List Nat := (List.range n.length).map (codeAt n)

theorem cnt_le (n : List Nat) (k : Nat) : cnt n k ≤ n.length := by
  unfold cnt; split
  · omega
  · exact List.count_le_length
theorem cnt_snoc (n : List Nat) (x k : Nat) : cnt (n ++ [x]) k = cnt n k + if x = k ∧ k ≠ 0 then 1 else 0 := by
  unfold cnt
  by_cases hk : k = 0
  · simp [hk]
  · by_cases hx : x = k
    · subst hx; simp [hk]
    · simp [hk, hx]
theorem wsum_snoc (n : List Nat) (x : Nat) : wsum (n ++ [x]) = wsum n + wt x := by simp [wsum]
theorem psum_snoc (n : List Nat) (x k : Nat) : psum (n ++ [x]) k = psum n k + if x < k then wt x else 0 := by
  induction k with
  | zero => simp [psum]
  | succ k ih =>
    simp only [psum, ih, cnt_snoc]
    by_cases h1 : x = k
    · subst h1
      simp only [Nat.lt_irrefl, if_false, Nat.lt_succ_self, if_true, wt]
      by_cases h0 : x = 0
      · simp [h0]
      · simp [h0, Nat.add_mul]; omega
    · by_cases h2 : x < k
      · simp [h1, h2, show x < k + 1 by omega]; try omega
      · simp [h1, h2, show ¬ x < k + 1 by omega]
theorem list_snoc_ind {α : Type} {p : List α → Prop} (h0 : p []) (hs : ∀ l x, p l → p (l ++ [x])) (l : List α) : p l := by
  have : ∀ k (l : List α), l.length = k → p l := fun k => by
    induction k with
    | zero => intro l hl; rw [List.eq_nil_of_length_eq_zero hl]; exact h0
    | succ k ih =>
      intro l hl
      have hne : l ≠ [] := by intro h; rw [h] at hl; simp at hl
      rw [← List.dropLast_concat_getLast hne]
      exact hs _ _ (ih _ (by simp [hl]))
  exact this _ l rfl
theorem psum_wsum (n : List Nat) : (∀ x ∈ n, x ≤ 15) → psum n 16 = wsum n := by
  induction n using list_snoc_ind with
  | h0 => intro _; rfl
  | hs l x ih =>
    intro h
    rw [psum_snoc, wsum_snoc, ih (fun y hy => h y (by simp [hy])), if_pos (by have := h x (by simp); omega)]
theorem fst_psum (n : List Nat) (k : Nat) (hk : k ≤ 15) : fst n k * 2 ^ (15 - k) = psum n k := by
  induction k with
  | zero => simp [fst, psum]
  | succ k ih =>
    have h := ih (by omega)
    have e : 2 ^ (15 - k) = 2 * 2 ^ (15 - (k + 1)) := by rw [show 15 - k = (15 - (k + 1)) + 1 by omega, Nat.pow_succ, Nat.mul_comm]
    simp only [fst, psum]
    rw [← h, ← Nat.add_mul, e, Nat.mul_comm 2, Nat.mul_assoc]
theorem psum_mono (n : List Nat) {j k : Nat} (h : j ≤ k) : psum n j ≤ psum n k := by
  induction k with
  | zero => have : j = 0 := by omega
            subst this; exact Nat.le_refl _
  | succ k ih =>
    by_cases hj : j = k + 1
    · subst hj; exact Nat.le_refl _
    · exact Nat.le_trans (ih (by omega)) (by simp [psum])
/-- Where the lengths are not over, the codes of length k have k bits. -/
theorem fst_cnt (n : List Nat) (hs : psum n 16 ≤ 32768) (k : Nat) (hk : k ≤ 15) : fst n k + cnt n k ≤ 2 ^ k := by
  have h1 := fst_psum n k hk
  have h2 : psum n (k + 1) ≤ 32768 := Nat.le_trans (psum_mono n (by omega)) hs
  simp only [psum] at h2
  rw [← h1, ← Nat.add_mul] at h2
  have h3 : 2 ^ k * 2 ^ (15 - k) = 32768 := by rw [← Nat.pow_add, show k + (15 - k) = 15 by omega]
  rw [← h3] at h2
  exact Nat.le_of_mul_le_mul_right h2 (Nat.two_pow_pos _)
theorem psum_le (n : List Nat) (k : Nat) (hk : k ≤ 16) (hn : n.length ≤ 300) : psum n k ≤ k * 9830400 := by
  induction k with
  | zero => simp [psum]
  | succ k ih =>
    have h1 := ih (by omega)
    have h2 := cnt_le n k
    have h3 : 2 ^ (15 - k) ≤ 2 ^ 15 := Nat.pow_le_pow_right (by omega) (by omega)
    have h4 : cnt n k * 2 ^ (15 - k) ≤ 300 * 2 ^ 15 := Nat.mul_le_mul (by omega) h3
    simp only [psum]
    omega
theorem wt_le (x : Nat) : wt x ≤ 32768 := by
  unfold wt; split
  · omega
  · exact Nat.pow_le_pow_right (by omega) (show 15 - x ≤ 15 by omega)
theorem count_le_of (n : List Nat) (i x : Nat) (h : i < n.length) (hx : n.getD i 0 = x) : (n.take i).count x + 1 ≤ n.count x := by
  have h1 : n = n.take i ++ n[i] :: n.drop (i + 1) := by rw [List.getElem_cons_drop, List.take_append_drop]
  have h2 : n[i] = x := by rw [← hx]; simp [List.getD, h]
  conv => rhs; rw [h1]
  rw [List.count_append, h2, List.count_cons_self]; omega
theorem kindN_over (n : List Nat) : kindN n = 3 ↔ 32768 < wsum n := by
  unfold kindN
  split
  · omega
  · split
    · omega
    · split <;> omega
/-- The counts of all lengths, as they stand in an array: zero too (cl0), zero not (cl). -/
def cl0 (n : List Nat) : List Nat := (List.range 16).map fun k => n.count k
def cl (n : List Nat) : List Nat := (List.range 16).map (cnt n)
theorem length_cl0 (n : List Nat) : (cl0 n).length = 16 := by simp [cl0]
theorem length_cl (n : List Nat) : (cl n).length = 16 := by simp [cl]
theorem cl0_get (n : List Nat) (k : Nat) (h : k < 16) : (cl0 n)[k]? = some (n.count k) := by simp [cl0, h]
theorem cl_get (n : List Nat) (k : Nat) (h : k < 16) : (cl n)[k]? = some (cnt n k) := by simp [cl, h]
theorem cl0_snoc (n : List Nat) (x : Nat) (h : x < 16) : cl0 (n ++ [x]) = (cl0 n).set x (n.count x + 1) := by
  apply List.ext_getElem?
  intro k
  by_cases hk : k < 16
  · rw [cl0_get _ _ hk, List.getElem?_set, cl0_get _ _ hk]
    by_cases hx : x = k
    · subst hx; simp [length_cl0, h]
    · simp [hx]
  · rw [List.getElem?_eq_none (by rw [length_cl0]; omega), List.getElem?_eq_none (by rw [List.length_set, length_cl0]; omega)]
theorem cl0_cl (n : List Nat) : (cl0 n).set 0 0 = cl n := by
  apply List.ext_getElem?
  intro k
  by_cases hk : k < 16
  · rw [cl_get _ _ hk, List.getElem?_set, cl0_get _ _ hk]
    by_cases hx : 0 = k
    · subst hx; simp [length_cl0, cnt]
    · simp [hx, cnt, show ¬ k = 0 by omega]
  · rw [List.getElem?_eq_none (by rw [List.length_set, length_cl0]; omega), List.getElem?_eq_none (by rw [length_cl]; omega)]
theorem take_snoc' {α : Type} (l : List α) (i : Nat) (h : i < l.length) : l.take (i + 1) = l.take i ++ [l[i]] := List.take_succ_eq_append_getElem h
theorem okLens_take {l : List Int} {i : Nat} (h : i < l.length) (hi : okLens (l.take i) = true) (hl : l.length ≤ 300) (h0 : 0 ≤ l[i]) (h1 : l[i] ≤ 15) : okLens (l.take (i + 1)) = true := by
  have h2 := okLens_spec hi
  refine okLens_mk (by simp; omega) (fun k hk => ?_)
  rw [take_snoc' l i h] at hk
  rcases List.mem_append.1 hk with hk | hk
  · exact h2.2 k hk
  · simp at hk; subst hk; exact ⟨h0, h1⟩
theorem okLens_not {l : List Int} {i : Nat} (h : i < l.length) (hb : ¬ (0 ≤ l[i] ∧ l[i] ≤ 15)) : okLens l = false := by
  cases hc : okLens l with
  | false => rfl
  | true => exact absurd ((okLens_spec hc).2 _ (List.getElem_mem h)) hb
theorem okLens_long {l : List Int} (h : 300 < l.length) : okLens l = false := by
  cases hc : okLens l with
  | false => rfl
  | true => exact absurd (okLens_spec hc).1 (by omega)
/-- The first codes of all lengths; those of lengths below k alone; what comes next behind the first i symbols; the codes of the first i symbols. -/
def fl (n : List Nat) : List Nat := (List.range 16).map (fst n)
def flp (n : List Nat) (k : Nat) : List Nat := (List.range 16).map fun j => if j < k then fst n j else 0
def nx (n : List Nat) (i : Nat) : List Nat := (List.range 16).map fun k => fst n k + cnt (n.take i) k
def outp (n : List Nat) (i : Nat) : List Nat := (List.range n.length).map fun j => if j < i then codeAt n j else 0
theorem range_set {f g : Nat → Nat} {m k x : Nat} (hx : k < m → g k = x) (ho : ∀ j, j < m → j ≠ k → g j = f j) : ((List.range m).map f).set k x = (List.range m).map g := by
  apply List.ext_getElem?
  intro j
  by_cases hj : j < m
  · rw [List.getElem?_set]
    by_cases hk : k = j
    · subst hk; simp [hj, hx hj]
    · simp [hk, hj, ho j hj (fun e => hk e.symm)]
  · rw [List.getElem?_eq_none (by simp; omega), List.getElem?_eq_none (by simp; omega)]
theorem length_fl (n : List Nat) : (fl n).length = 16 := by simp [fl]
theorem length_flp (n : List Nat) (k : Nat) : (flp n k).length = 16 := by simp [flp]
theorem length_outp (n : List Nat) (i : Nat) : (outp n i).length = n.length := by simp [outp]
theorem flp_set (n : List Nat) (k : Nat) : (flp n k).set k (fst n k) = flp n (k + 1) :=
  range_set (fun _ => by simp) (fun j _ hj => by
    by_cases h : j < k
    · simp [h, show j < k + 1 by omega]
    · simp [h, show ¬ j < k + 1 by omega])
theorem flp_get (n : List Nat) (k j : Nat) (h : j < 16) : (flp n k)[j]? = some (if j < k then fst n j else 0) := by simp [flp, h]
theorem flp_16 (n : List Nat) : flp n 16 = fl n := by
  unfold flp fl
  apply List.map_congr_left
  intro j hj
  rw [List.mem_range] at hj
  rw [if_pos hj]
theorem flp_1 (n : List Nat) : flp n 1 = List.replicate 16 0 := by
  apply List.ext_getElem?
  intro j
  by_cases hj : j < 16
  · rw [flp_get _ _ _ hj, List.getElem?_replicate, if_pos hj]
    by_cases h : j < 1
    · have : j = 0 := by omega
      subst this; simp [fst]
    · simp [h]
  · rw [List.getElem?_eq_none (by rw [length_flp]; omega), List.getElem?_eq_none (by simp; omega)]
theorem nx_0 (n : List Nat) : nx n 0 = fl n := by
  unfold nx fl
  apply List.map_congr_left
  intro j _
  simp [cnt]
theorem nx_get (n : List Nat) (i k : Nat) (h : k < 16) : (nx n i)[k]? = some (fst n k + cnt (n.take i) k) := by simp [nx, h]
theorem cnt_take (n : List Nat) (i k : Nat) (h : i < n.length) : cnt (n.take (i + 1)) k = cnt (n.take i) k + if n[i] = k ∧ k ≠ 0 then 1 else 0 := by
  rw [take_snoc' n i h, cnt_snoc]
theorem nx_set (n : List Nat) (i : Nat) (h : i < n.length) (hp : n[i] ≠ 0) : (nx n i).set n[i] (fst n n[i] + cnt (n.take i) n[i] + 1) = nx n (i + 1) :=
  range_set (fun _ => by rw [cnt_take _ _ _ h]; simp [hp]; omega) (fun j _ hj => by
    simp only [cnt_take _ _ _ h]
    rw [if_neg (fun e => hj e.1.symm)]; omega)
theorem nx_same (n : List Nat) (i : Nat) (h : i < n.length) (hp : n[i] = 0) : nx n (i + 1) = nx n i := by
  unfold nx
  apply List.map_congr_left
  intro j _
  rw [cnt_take _ _ _ h, hp]
  by_cases hj : j = 0
  · simp [hj]
  · simp [show ¬ 0 = j by omega]
theorem codeAt_pos (n : List Nat) (i : Nat) (h : i < n.length) (hp : n[i] ≠ 0) : codeAt n i = fst n n[i] + cnt (n.take i) n[i] := by
  have : n.getD i 0 = n[i] := by simp [List.getD, h]
  unfold codeAt cnt
  rw [this, if_neg hp, if_neg hp]
theorem codeAt_zero (n : List Nat) (i : Nat) (h : i < n.length) (hp : n[i] = 0) : codeAt n i = 0 := by
  have : n.getD i 0 = n[i] := by simp [List.getD, h]
  unfold codeAt
  rw [this, if_pos hp]
theorem outp_set (n : List Nat) (i : Nat) : (outp n i).set i (codeAt n i) = outp n (i + 1) :=
  range_set (fun _ => by simp) (fun j _ hj => by
    by_cases h : j < i
    · simp [h, show j < i + 1 by omega]
    · simp [h, show ¬ j < i + 1 by omega])
theorem outp_same (n : List Nat) (i : Nat) (h : i < n.length) (hp : n[i] = 0) : outp n (i + 1) = outp n i := by
  unfold outp
  apply List.map_congr_left
  intro j hj
  rw [List.mem_range] at hj
  by_cases h1 : j < i
  · simp [h1, show j < i + 1 by omega]
  · by_cases h2 : j = i
    · subst h2; simp [codeAt_zero n j h hp]
    · simp [h1, show ¬ j < i + 1 by omega]
theorem outp_0 (n : List Nat) : outp n 0 = List.replicate n.length 0 := by
  apply List.ext_getElem?
  intro j
  by_cases hj : j < n.length
  · simp [outp, hj]
  · rw [List.getElem?_eq_none (by rw [length_outp]; omega), List.getElem?_eq_none (by simp; omega)]
theorem outp_all (n : List Nat) : outp n n.length = codes n := by
  unfold outp codes
  apply List.map_congr_left
  intro j hj
  rw [List.mem_range] at hj
  rw [if_pos hj]
theorem cnt_take_le (n : List Nat) (i k : Nat) : cnt (n.take i) k ≤ cnt n k := by
  unfold cnt
  split
  · omega
  · exact List.Sublist.count_le _ (List.take_sublist i n)
theorem nats_le {l : List Int} (h : okLens l = true) : ∀ x ∈ nats l, x ≤ 15 := fun x hx => by
  simp only [nats, List.mem_map] at hx
  obtain ⟨y, hy, rfl⟩ := hx
  have := (okLens_spec h).2 y hy; omega
theorem kindOf_ok {l : List Int} (h : kindOf l ≠ 3) : okLens l = true ∧ psum (nats l) 16 ≤ 32768 := by
  unfold kindOf at h
  by_cases hok : okLens l = true
  · rw [if_pos hok] at h
    refine ⟨hok, ?_⟩
    rw [psum_wsum _ (nats_le hok)]
    have := mt (kindN_over (nats l)).2 h
    omega
  · exact absurd (if_neg hok) h
/-- The lowest bits of a number from behind. -/
def turnN (v : Nat) : Nat → Nat
  | 0 => 0
  | i + 1 => 2 * turnN v i + v / 2 ^ i % 2
theorem turnN_lt (v i : Nat) : turnN v i < 2 ^ i := by
  induction i with
  | zero => simp [turnN]
  | succ i ih => simp only [turnN, Nat.pow_succ]; have : v / 2 ^ i % 2 < 2 := Nat.mod_lt _ (by omega); omega
theorem turn_step (v K i : Nat) (h : i < K) : turnN v i * 2 ^ (K - i) ||| (v / 2 ^ i % 2) * 2 ^ (K - 1 - i) = turnN v (i + 1) * 2 ^ (K - (i + 1)) := by
  have e : 2 ^ (K - i) = 2 * 2 ^ (K - 1 - i) := by rw [show K - i = (K - 1 - i) + 1 by omega, Nat.pow_succ, Nat.mul_comm]
  have h1 : v / 2 ^ i % 2 < 2 := Nat.mod_lt _ (by omega)
  have h2 : (v / 2 ^ i % 2) * 2 ^ (K - 1 - i) < 2 ^ (K - i) := by
    rw [e]; exact Nat.mul_lt_mul_of_pos_right h1 (Nat.two_pow_pos _)
  rw [nat_join (K - i) _ _ (Nat.mul_mod_left _ _) h2, show K - (i + 1) = K - 1 - i by omega, e]
  simp only [turnN]
  rw [Nat.add_mul, ← Nat.mul_assoc, Nat.mul_comm (turnN v i) 2]
theorem turn_bound (v K i : Nat) (h : i ≤ K) (hK : K ≤ 32) : turnN v i * 2 ^ (K - i) < 4294967296 := by
  have h1 : turnN v i * 2 ^ (K - i) < 2 ^ i * 2 ^ (K - i) := Nat.mul_lt_mul_of_pos_right (turnN_lt v i) (Nat.two_pow_pos _)
  rw [← Nat.pow_add, show i + (K - i) = K by omega] at h1
  exact Nat.lt_of_lt_of_le h1 (Nat.pow_le_pow_right (by omega) hK)
theorem wsum_le (n : List Nat) {m : Nat} (h : n.length ≤ m) : wsum n ≤ m * 32768 := by
  have : wsum n ≤ n.length * 32768 := by
    induction n with
    | nil => simp [wsum]
    | cons x n ih =>
      have := wt_le x
      have h2 := ih (by simp at h; omega)
      simp only [wsum, List.map_cons, List.sum_cons, List.length_cons] at *
      omega
  exact Nat.le_trans this (Nat.mul_le_mul_right _ h)
/-- The codes of lengths below k, and of the first i symbols of length k. -/
def outq (n : List Nat) (k i : Nat) : List Nat := (List.range n.length).map fun j => if (n.getD j 0 < k) ∨ (n.getD j 0 = k ∧ j < i) then codeAt n j else 0
theorem length_outq (n : List Nat) (k i : Nat) : (outq n k i).length = n.length := by simp [outq]
theorem outq_set (n : List Nat) (k i : Nat) (h : n.getD i 0 = k) : (outq n k i).set i (codeAt n i) = outq n k (i + 1) :=
  range_set (fun _ => by rw [if_pos (.inr ⟨h, by omega⟩)]) (fun j _ hj => by
    by_cases h1 : n.getD j 0 < k ∨ (n.getD j 0 = k ∧ j < i)
    · rw [if_pos h1, if_pos (h1.imp id fun ⟨a, b⟩ => ⟨a, by omega⟩)]
    · rw [if_neg h1, if_neg (fun h2 => h1 (h2.imp id fun ⟨a, b⟩ => ⟨a, by omega⟩))])
theorem outq_same (n : List Nat) (k i : Nat) (h : n.getD i 0 ≠ k) : outq n k (i + 1) = outq n k i := by
  unfold outq
  apply List.map_congr_left
  intro j _
  by_cases h1 : n.getD j 0 < k ∨ (n.getD j 0 = k ∧ j < i)
  · rw [if_pos h1, if_pos (h1.imp id fun ⟨a, b⟩ => ⟨a, by omega⟩)]
  · rw [if_neg h1, if_neg (fun h2 => h1 (h2.imp id fun ⟨a, b⟩ => ⟨a, by
      have : j ≠ i := fun e => h (by rw [← e]; exact a)
      omega⟩))]
theorem outq_next (n : List Nat) (k : Nat) : outq n k n.length = outq n (k + 1) 0 := by
  unfold outq
  apply List.map_congr_left
  intro j hj
  rw [List.mem_range] at hj
  by_cases h1 : n.getD j 0 < k + 1
  · rw [if_pos (by omega), if_pos (by omega)]
  · rw [if_neg (by omega), if_neg (by omega)]
theorem outq_1 (n : List Nat) : outq n 1 0 = List.replicate n.length 0 := by
  apply List.ext_getElem?
  intro j
  by_cases hj : j < n.length
  · have : (outq n 1 0)[j]? = some (if (n.getD j 0 < 1) ∨ (n.getD j 0 = 1 ∧ j < 0) then codeAt n j else 0) := by simp [outq, hj]
    rw [this, List.getElem?_replicate, if_pos hj]
    by_cases h1 : n.getD j 0 < 1
    · rw [if_pos (.inl h1)]; unfold codeAt; rw [if_pos (by omega)]
    · rw [if_neg (by omega)]
  · rw [List.getElem?_eq_none (by rw [length_outq]; omega), List.getElem?_eq_none (by simp; omega)]
theorem outq_16 (n : List Nat) (h : ∀ x ∈ n, x ≤ 15) : outq n 16 0 = codes n := by
  unfold outq codes
  apply List.map_congr_left
  intro j hj
  rw [List.mem_range] at hj
  have h1 : n.getD j 0 ≤ 15 := by
    rw [List.getD, List.getElem?_eq_getElem hj]
    exact h _ (List.getElem_mem hj)
  rw [if_pos (.inl (by omega))]
/-- The symbols of length k among the first i; those of lengths below k, by length. -/
def idx (n : List Nat) (k i : Nat) : List Nat := (List.range i).filter fun j => n.getD j 0 == k
def symsTo (n : List Nat) : Nat → List Nat
  | 0 => []
  | k + 1 => if k = 0 then [] else symsTo n k ++ idx n k n.length
theorem idx_succ (n : List Nat) (k i : Nat) : idx n k (i + 1) = idx n k i ++ if n.getD i 0 = k then [i] else [] := by
  unfold idx
  rw [List.range_succ, List.filter_append]
  by_cases h : n.getD i 0 = k
  · rw [if_pos h]; simp [List.filter_cons]; simpa [List.getD] using h
  · rw [if_neg h]; simp [List.filter_cons]; simpa [List.getD] using h
theorem length_idx (n : List Nat) (k i : Nat) (hi : i ≤ n.length) : (idx n k i).length = (n.take i).count k := by
  induction i with
  | zero => simp [idx]
  | succ i ih =>
    rw [idx_succ, List.length_append, ih (by omega), take_snoc' n i (by omega), List.count_append]
    have e : n.getD i 0 = n[i] := by simp [List.getD, show i < n.length by omega]
    rw [e]
    by_cases h : n[i] = k
    · rw [if_pos h, h]; simp
    · rw [if_neg h]; simp [h]
theorem length_idx_all (n : List Nat) (k : Nat) (h : 1 ≤ k) : (idx n k n.length).length = cnt n k := by
  rw [length_idx n k _ (Nat.le_refl _), List.take_length, cnt, if_neg (by omega)]
/-- Which symbol a code of length k is. -/
def symAt (n : List Nat) (k c : Nat) : Option Nat := if fst n k ≤ c ∧ c < fst n k + cnt n k then some ((idx n k n.length).getD (c - fst n k) 0) else none
end Go.Proofs.YtdehkaknbmbieaaGreat
namespace Go.Proofs.YtdehkaknbmbieaaGreat
set_option linter.unusedVariables false
set_option linter.unusedSimpArgs false
set_option linter.unusedSectionVars false
open Go.RowKit

/-- Integers that can be read where a slice leads. -/
structure IntsIn (w : World) (a : Option Addr) (len : Nat) (l : List Int) : Prop where
  len : l.length = len
  cell : ∀ i (h : i < l.length), ∃ b off, a = some ⟨b, off, none⟩ ∧ w.cell? ⟨b, off + i, none⟩ = some (.int .i64 l[i]) ∧ -9223372036854775808 ≤ l[i] ∧ l[i] ≤ 9223372036854775807
theorem IntsIn.upd {w w' : World} {a : Option Addr} {len : Nat} {l : List Int} {fp : List Nat} (h : IntsIn w a len l) (hU : Upd fp w w') (hf : ∀ b off, a = some ⟨b, off, none⟩ → b ∉ fp) : IntsIn w' a len l :=
  ⟨h.len, fun i hi => by
    obtain ⟨b, off, e, c, r⟩ := h.cell i hi
    have hb : b < w.heap.size := World.block_lt_of_cell? w _ c
    exact ⟨b, off, e, (hU.at hb (hf b off e) _).trans c, r⟩⟩
theorem IntsIn.pure {w w' : World} {a : Option Addr} {len : Nat} {l : List Int} (h : IntsIn w a len l) (hU : Upd [] w w') : IntsIn w' a len l := h.upd hU (by simp)

def i64s (l : List Nat) : List Value := l.map fun x : Nat => .int .i64 (x : Int)
theorem length_i64s (l : List Nat) : (i64s l).length = l.length := by simp [i64s]
theorem i64s_set (l : List Nat) (i x : Nat) : i64s (l.set i x) = (i64s l).set i (.int .i64 (x : Int)) := by simp [i64s, List.map_set]
theorem i64s_get (l : List Nat) (i x : Nat) (h : l[i]? = some x) : (i64s l)[i]? = some (.int .i64 (x : Int)) := by simp [i64s, h]
theorem i64s_one (l : List Nat) : ∀ v ∈ i64s l, v.oneCell' = true := by
  intro v hv
  simp only [i64s, List.mem_map] at hv
  obtain ⟨x, _, rfl⟩ := hv
  rfl

theorem IntsIn.of_blk {w : World} {b : Nat} {l : List Int} {t : TypeId} (h : Blk w b (l.map (Value.int .i64)) t) (hb : ∀ x ∈ l, -9223372036854775808 ≤ x ∧ x ≤ 9223372036854775807) : IntsIn w (some ⟨b, 0, none⟩) l.length l :=
  ⟨rfl, fun i hi => ⟨b, 0, rfl, by rw [Nat.zero_add]; exact h.cell i (by simp [hi]), hb _ (List.getElem_mem hi)⟩⟩

theorem infoInt : (Tryz.prog.info? 3).map (fun i => (i.zero, i.size, i.bytes)) = some (some (.int .i64 0), 1, 8) := by kernel_rfl
end Go.Proofs.YtdehkaknbmbieaaGreat
namespace Go.Proofs.YtdehkaknbmbieaaGreat
set_option linter.unusedVariables false
set_option linter.unusedSimpArgs false
set_option linter.unusedSectionVars false
open Go.RowKit
set_option linter.unusedVariables false
set_option linter.unusedSimpArgs false

theorem nearN_int (n : Int) : max 0 (min n 1073741824) = ((nearN n : Nat) : Int) := by unfold nearN; omega
theorem near_any (n : Int) (w : World) : Calls Tryz.prog 95 #[.int .i64 n] w fun e w' => e = .returned (.int .i64 (nearN n : Nat)) ∧ w = w' := by
  have h := nearN_int n
  generalize nearN n = N at *
  go_enter Tryz.func95, Tryz.ntmps95
  go_wp2
  go_ret
  exact ⟨rfl, rfl⟩
theorem isNaN_any (n : Int) (w : World) : Calls Tryz.prog 131 #[.int .i64 n] w fun e w' => e = .returned (.bool false) ∧ w = w' := by
  go_enter Tryz.func131, Tryz.ntmps131
  go_wp2
  go_ret
  exact ⟨rfl, rfl⟩
def cmpN (a b : Nat) : Int := if a < b then -1 else if b < a then 1 else 0
theorem cmpN_cases (a b : Nat) : (a < b ∧ cmpN a b = -1) ∨ (b < a ∧ cmpN a b = 1) ∨ (a = b ∧ cmpN a b = 0) := by
  unfold cmpN
  by_cases h : a < b
  · exact .inl ⟨h, if_pos h⟩
  · by_cases h2 : b < a
    · exact .inr (.inl ⟨h2, by rw [if_neg h, if_pos h2]⟩)
    · exact .inr (.inr ⟨by omega, by rw [if_neg h, if_neg h2]⟩)
theorem compare_any (a b : Nat) (w : World) : Calls Tryz.prog 94 #[.int .i64 (a : Nat), .int .i64 (b : Nat)] w fun e w' => e = .returned (.int .i64 (cmpN a b)) ∧ w = w' := by
  have HN := Lib.hid (fun n w => isNaN_any n w)
  rcases cmpN_cases a b with ⟨h, e⟩ | ⟨h, e⟩ | ⟨h, e⟩
  · rw [e]
    have hz : (a : Int) < (b : Int) := by omega
    go_enter Tryz.func94, Tryz.ntmps94
    go_wp2_with (go_at_call 131; refine (HN.out _ _).mono ?_; rintro e w' ⟨rfl, rfl⟩)
    go_ret
    exact ⟨rfl, rfl⟩
  · rw [e]
    have hz : ¬ (a : Int) < (b : Int) := by omega
    have hz2 : (b : Int) < (a : Int) := by omega
    go_enter Tryz.func94, Tryz.ntmps94
    go_wp2_with (go_at_call 131; refine (HN.out _ _).mono ?_; rintro e w' ⟨rfl, rfl⟩)
    go_ret
    exact ⟨rfl, rfl⟩
  · rw [e]
    subst h
    have hz : ¬ (a : Int) < (a : Int) := by omega
    go_enter Tryz.func94, Tryz.ntmps94
    go_wp2_with (go_at_call 131; refine (HN.out _ _).mono ?_; rintro e w' ⟨rfl, rfl⟩)
    go_ret
    exact ⟨rfl, rfl⟩
def orN (x y : Int) : Int := if x = 0 then y else x
/-- cmp.Or of two. -/
theorem or_any (b : Nat) (x y : Int) (w : World) (h0 : w.cell? ⟨b, 0, none⟩ = some (.int .i64 x)) (h1 : w.cell? ⟨b, 1, none⟩ = some (.int .i64 y)) :
    Calls Tryz.prog 93 #[.slice (some ⟨b, 0, none⟩) 2 2] w fun e w' => e = .returned (.int .i64 (orN x y)) ∧ w = w' := by
  have h01 : w.cell? ⟨b, 0 + 1, none⟩ = some (.int .i64 y) := h1
  by_cases hx : x = 0
  · have e : orN x y = y := by unfold orN; rw [if_pos hx]
    rw [e]
    subst hx
    by_cases hy : y = 0
    · subst hy
      go_enter Tryz.func93, Tryz.ntmps93
      go_wp2
      refine wp_loop_rounds 3 ?_
      rw [rounds_succ]
      go_wp2
      rw [rounds_succ]
      go_wp2
      rw [rounds_succ]
      go_wp2
      go_ret
      exact ⟨rfl, rfl⟩
    · have t1 : (y != 0) = true := by simpa using hy
      go_enter Tryz.func93, Tryz.ntmps93
      go_wp2
      refine wp_loop_rounds 3 ?_
      rw [rounds_succ]
      go_wp2
      rw [rounds_succ]
      go_wp2
      go_ret
      exact ⟨rfl, rfl⟩
  · have e : orN x y = x := by unfold orN; rw [if_neg hx]
    rw [e]
    have t1 : (x != 0) = true := by simpa using hx
    go_enter Tryz.func93, Tryz.ntmps93
    go_wp2
    refine wp_loop_rounds 3 ?_
    rw [rounds_succ]
    go_wp2
    go_ret
    exact ⟨rfl, rfl⟩
end Go.Proofs.YtdehkaknbmbieaaGreat
namespace Go.Proofs.YtdehkaknbmbieaaGreat
set_option linter.unusedVariables false
set_option linter.unusedSimpArgs false
set_option linter.unusedSectionVars false


theorem heldTake {P : Program} {md : Region.Mode} {ops : Array Oper} {Q : Exit → Act → World → Prop} {S : World → Prop} {i : Nat} {oi : Oper} {d : Option Tmp} {v : Value} {fuel : Nat} {listed : Array Bool} {a : Act} {w : World} (hi : ops[i]? = some oi) (hd : oi.dst = d)
    (hs : Region.noSelect ops = true) (hf : Region.free md ops listed i = true) (hr : (Region.ready md ops listed).contains i = true)
    (hQ : ∀ c a w, Q (.panic c) (a.put d v) w → Q (.panic c) a w) (hw : Region.wanted oi (yielded ops a.tmps) = true) (hy : ∀ w, S w → (execOp a.eval oi).run P w = .ok (.value v) w) (hS : S w)
    (h : wpAnyH P md ops Q S fuel (listed.setIfInBounds i true) (a.put d v) w) : wpAnyH P md ops Q S (fuel + 1) listed a w := by
  subst hd
  exact wpAnyH_take hi hs hf hr hQ (Or.inl ⟨hw, hy⟩) hS h
theorem heldSkip {P : Program} {md : Region.Mode} {ops : Array Oper} {Q : Exit → Act → World → Prop} {S : World → Prop} {i : Nat} {oi : Oper} {d : Option Tmp} {fuel : Nat} {listed : Array Bool} {a : Act} {w : World} (hi : ops[i]? = some oi) (hd : oi.dst = d)
    (hs : Region.noSelect ops = true) (hf : Region.free md ops listed i = true) (hr : (Region.ready md ops listed).contains i = true)
    (hQ : ∀ c a w, Q (.panic c) (a.put d undef) w → Q (.panic c) a w) (hw : Region.wanted oi (yielded ops a.tmps) = false) (hS : S w)
    (h : wpAnyH P md ops Q S fuel (listed.setIfInBounds i true) (a.put d undef) w) : wpAnyH P md ops Q S (fuel + 1) listed a w := by
  subst hd
  exact wpAnyH_take hi hs hf hr hQ (Or.inr ⟨hw, rfl⟩) hS h
end Go.Proofs.YtdehkaknbmbieaaGreat
