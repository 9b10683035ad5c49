/- Lengths (plain): which symbols are used, in which order; the length of each; what lengths cost. -/
import Derived.Test.YtdehkaknbmbieaaLeaP
namespace Go.Proofs.Ytdehkaknbmbieaa
set_option linter.unusedVariables false
set_option linter.unusedSimpArgs false
set_option linter.unusedSectionVars false

/-- The nearer one of two limits. -/
def nearN (n : Int) : Nat := (max 0 (min n 1073741824)).toNat
theorem nearN_le (n : Int) : nearN n ≤ 1073741824 := by unfold nearN; omega
/-- Which symbol stands ahead. -/
def Ahead (many : List Int) (a b : Nat) : Prop := nearN (many.getD a 0) < nearN (many.getD b 0) ∨ (nearN (many.getD a 0) = nearN (many.getD b 0) ∧ a < b)
theorem Ahead.irrefl {many : List Int} {a : Nat} : ¬ Ahead many a a := fun h => by rcases h with h | h <;> omega
theorem Ahead.asymm {many : List Int} {a b : Nat} (h : Ahead many a b) : ¬ Ahead many b a := fun k => by
  rcases h with h | h <;> rcases k with k | k <;> omega
theorem Ahead.ne {many : List Int} {a b : Nat} (h : Ahead many a b) : a ≠ b := fun e => by subst e; exact h.irrefl
theorem Ahead.trans {many : List Int} {a b c : Nat} (h : Ahead many a b) (k : Ahead many b c) : Ahead many a c := by
  unfold Ahead at *; omega
/-- The symbols below n that are used, in their order. -/
structure IsUsed (many : List Int) (n : Nat) (u : List Nat) : Prop where
  mem : ∀ i, i ∈ u ↔ i < n ∧ 0 < many.getD i 0
  srt : u.Pairwise (Ahead many)
theorem srt_uniq (many : List Int) : ∀ (u v : List Nat), u.Pairwise (Ahead many) → v.Pairwise (Ahead many) → (∀ i, i ∈ u ↔ i ∈ v) → u = v
  | [], [], _, _, _ => rfl
  | [], y :: v, _, _, h => absurd ((h y).2 List.mem_cons_self) (by simp)
  | x :: u, [], _, _, h => absurd ((h x).1 List.mem_cons_self) (by simp)
  | x :: u, y :: v, hu, hv, h => by
    have hu' := List.pairwise_cons.1 hu
    have hv' := List.pairwise_cons.1 hv
    have e : x = y := by
      rcases List.mem_cons.1 ((h x).1 List.mem_cons_self) with e | hx
      · exact e
      · rcases List.mem_cons.1 ((h y).2 List.mem_cons_self) with e | hy
        · exact e.symm
        · exact absurd (hu'.1 y hy) (hv'.1 x hx).asymm
    subst e
    rw [srt_uniq many u v hu'.2 hv'.2 fun i => ?_]
    constructor
    · intro hi
      rcases List.mem_cons.1 ((h i).1 (List.mem_cons_of_mem _ hi)) with e | hi'
      · exact absurd e.symm (hu'.1 i hi).ne
      · exact hi'
    · intro hi
      rcases List.mem_cons.1 ((h i).2 (List.mem_cons_of_mem _ hi)) with e | hi'
      · exact absurd e.symm (hv'.1 i hi).ne
      · exact hi'
theorem IsUsed.uniq {many : List Int} {n : Nat} {u v : List Nat} (h : IsUsed many n u) (k : IsUsed many n v) : u = v :=
  srt_uniq many u v h.srt k.srt fun i => (h.mem i).trans (k.mem i).symm
theorem IsUsed.nodup {many : List Int} {n : Nat} {u : List Nat} (h : IsUsed many n u) : u.Nodup := h.srt.imp Ahead.ne
theorem perm_range {n : Nat} {u : List Nat} (hnd : u.Nodup) (hlt : ∀ s ∈ u, s < n) : u.Perm ((List.range n).filter fun s => decide (s ∈ u)) := by
  rw [List.perm_ext_iff_of_nodup hnd (List.nodup_range.filter _)]
  intro s
  rw [List.mem_filter, List.mem_range]
  simp only [decide_eq_true_eq]
  exact ⟨fun h => ⟨hlt s h, h⟩, fun h => h.2⟩
theorem IsUsed.le {many : List Int} {n : Nat} {u : List Nat} (h : IsUsed many n u) : u.length ≤ n := by
  have h1 := (perm_range h.nodup fun i hi => ((h.mem i).1 hi).1).length_eq
  have h2 := List.length_filter_le (fun s => decide (s ∈ u)) (List.range n)
  rw [List.length_range] at h2
  omega
theorem IsUsed.nil (many : List Int) : IsUsed many 0 [] := ⟨fun i => by simp, List.Pairwise.nil⟩
theorem IsUsed.skip {many : List Int} {n : Nat} {u : List Nat} (h : IsUsed many n u) (hn : ¬ 0 < many.getD n 0) : IsUsed many (n + 1) u :=
  ⟨fun i => by
    rw [h.mem]
    by_cases e : i = n
    · subst e; constructor
      · intro k; omega
      · intro k; exact absurd k.2 hn
    · constructor <;> intro k <;> exact ⟨by omega, k.2⟩, h.srt⟩
/-- One more symbol, at its place. -/
theorem IsUsed.ins {many : List Int} {n : Nat} {u : List Nat} (h : IsUsed many n u) (hn : 0 < many.getD n 0) (k : Nat) (hk : k ≤ u.length)
    (h1 : ∀ i, i ∈ u.take k → nearN (many.getD i 0) ≤ nearN (many.getD n 0)) (h2 : ∀ i, i ∈ u.drop k → nearN (many.getD n 0) < nearN (many.getD i 0)) : IsUsed many (n + 1) (u.take k ++ n :: u.drop k) :=
  ⟨fun i => by
    rw [List.mem_append, List.mem_cons]
    have hm := h.mem i
    rw [← List.take_append_drop k u, List.mem_append] at hm
    by_cases e : i = n
    · subst e
      exact ⟨fun _ => ⟨by omega, hn⟩, fun _ => .inr (.inl rfl)⟩
    · constructor
      · rintro (q | q | q)
        · have := hm.1 (.inl q); exact ⟨by omega, this.2⟩
        · exact absurd q e
        · have := hm.1 (.inr q); exact ⟨by omega, this.2⟩
      · intro q
        rcases hm.2 ⟨by omega, q.2⟩ with q | q
        · exact .inl q
        · exact .inr (.inr q), by
    have hs := h.srt
    rw [← List.take_append_drop k u, List.pairwise_append] at hs
    rw [List.pairwise_append]
    refine ⟨hs.1, List.pairwise_cons.2 ⟨fun i hi => .inl (h2 i hi), hs.2.1⟩, ?_⟩
    intro a ha b hb
    rcases List.mem_cons.1 hb with rfl | hb
    · have h3 := h1 a ha
      have h4 := ((h.mem a).1 (List.mem_of_mem_take ha)).1
      unfold Ahead
      omega
    · exact hs.2.2 a ha b hb⟩
/-- The leaves. -/
def lvs (many : List Int) (u : List Nat) : List Coin := u.map fun s => .leaf (nearN (many.getD s 0)) s
theorem lvs_len (many : List Int) (u : List Nat) : (lvs many u).length = u.length := by simp [lvs]
theorem lvs_rise {many : List Int} {u : List Nat} (h : u.Pairwise (Ahead many)) : Rise (lvs many u) := by
  unfold Rise lvs
  rw [List.pairwise_map]
  exact h.imp fun hab => by
    unfold Ahead at hab
    show nearN _ ≤ nearN _
    omega
/-- The length of a symbol. -/
def lenAt (many : List Int) (u : List Nat) (L s : Nat) : Nat := sumC s ((rowC (lvs many u) L).take (2 * u.length - 2))
/-- A sum over all, of what is nought but at some. -/
theorem sum_off (n : Nat) (g : Nat → Nat) (u : List Nat) (hnd : u.Nodup) (hlt : ∀ s ∈ u, s < n) (h0 : ∀ s, s < n → s ∉ u → g s = 0) : sumN n g = (u.map g).sum := by
  rw [((perm_range hnd hlt).map g).sum_nat]
  unfold sumN
  have : ∀ l : List Nat, (∀ s ∈ l, s < n) → (l.map g).sum = ((l.filter fun s => decide (s ∈ u)).map g).sum := by
    intro l
    induction l with
    | nil => intro _; rfl
    | cons x r ih =>
      intro hl
      rw [List.map_cons, List.sum_cons, ih fun s hs => hl s (List.mem_cons_of_mem _ hs), List.filter_cons]
      by_cases hx : x ∈ u
      · rw [if_pos (by simpa using hx), List.map_cons, List.sum_cons]
      · rw [if_neg (by simpa using hx), h0 x (hl x List.mem_cons_self) hx]; omega
  exact this _ fun s hs => List.mem_range.1 hs
theorem sum_at (u : List Nat) (g : Nat → Nat) : (u.map g).sum = sumN u.length (fun i => g (u.getD i 0)) := by
  have h : ∀ m, m ≤ u.length → ((u.take m).map g).sum = sumN m (fun i => g (u.getD i 0)) := by
    intro m
    induction m with
    | zero => intro _; rfl
    | succ m ih =>
      intro hm
      rw [List.take_succ_eq_append_getElem (by omega), List.map_append, List.sum_append_nat, ih (by omega), sumN_succ]
      simp [List.getD_eq_getElem?_getD, List.getElem?_eq_getElem (show m < u.length by omega)]
  have h1 := h u.length (Nat.le_refl _)
  rwa [List.take_length] at h1
/-- **The lengths that package merge has.** -/
theorem len_fit (many : List Int) (u : List Nat) (L : Nat) (hs : u.Pairwise (Ahead many)) (h2 : 2 ≤ u.length) (hL : u.length ≤ 2 ^ L) :
    2 * u.length - 2 ≤ (rowC (lvs many u) L).length ∧ ∃ c : Nat → Nat, (∀ i, i < u.length → 1 ≤ c i ∧ c i ≤ L) ∧ (∀ i k, i ≤ k → c k ≤ c i) ∧ sumN u.length (fun i => 2 ^ (L - c i)) = 2 ^ L ∧
      (∀ i (h : i < u.length), lenAt many u L u[i] = c i) ∧ (∀ s, s ∉ u → lenAt many u L s = 0) ∧
      ∀ ks : List Nat, ks.length = u.length → (∀ k ∈ ks, k ≤ L) → roomP L ks ≤ 2 ^ L → sumN u.length (fun i => nearN (many.getD (u.getD i 0) 0) * c i) ≤ sumN u.length (fun i => nearN (many.getD (u.getD i 0) 0) * ks.getD i 0) := by
  have hr := lvs_rise hs
  have hnd : u.Nodup := hs.imp Ahead.ne
  have hl := lvs_len many u
  obtain ⟨h1, ts, t1, t2, t3, t4, t5, t6⟩ := pkg_fit (lvs many u) hr L (by omega) (by omega)
  rw [hl] at h1 t3 t4 t5 t6
  have hlv : ∀ i, i < u.length → (lvs many u).getD i (.leaf 0 0) = .leaf (nearN (many.getD (u.getD i 0) 0)) (u.getD i 0) := by
    intro i hi
    simp [lvs, List.getD_eq_getElem?_getD, hi]
  refine ⟨h1, cntL ts, t4, fun i k hik => cntL_fall ts hik, t3, ?_, ?_, ?_⟩
  · intro i hi
    unfold lenAt
    rw [t6]
    have e : ∀ m, m ≤ u.length → sumN m (fun k => ((lvs many u).getD k (.leaf 0 0)).cnt u[i] * cntL ts k) = if i < m then cntL ts i else 0 := by
      intro m
      induction m with
      | zero => intro _; simp [sumN]
      | succ m ih =>
        intro hm
        rw [sumN_succ, ih (by omega), hlv m (by omega)]
        have hg : u.getD m 0 = u[m] := by rw [List.getD_eq_getElem?_getD, List.getElem?_eq_getElem (by omega)]; rfl
        rw [hg]
        simp only [Coin.cnt]
        by_cases e : i = m
        · subst e
          simp
        · have hne : ¬ u[m] = u[i] := fun q => e ((List.getElem_inj hnd).1 q.symm)
          by_cases h : i < m
          · simp [hne, h, show i < m + 1 by omega]
          · simp [hne, h, show ¬ i < m + 1 by omega]
    rw [e _ (Nat.le_refl _), if_pos hi]
  · intro s hs
    unfold lenAt
    rw [t6]
    have e : sumN u.length (fun k => ((lvs many u).getD k (.leaf 0 0)).cnt s * cntL ts k) = sumN u.length (fun _ => 0) := sumN_congr fun i hi => by
      rw [hlv i hi]
      simp only [Coin.cnt]
      have hg : u.getD i 0 = u[i] := by rw [List.getD_eq_getElem?_getD, List.getElem?_eq_getElem hi]; rfl
      rw [hg, if_neg (fun q => hs (by rw [← q]; exact List.getElem_mem hi)), Nat.zero_mul]
    rw [e, sumN_const, Nat.mul_zero]
  · intro ks k1 k2 k3
    have h := pkg_least (lvs many u) hr L ((lvs many u).zip ks) (by rw [List.map_fst_zip (by omega)]) (fun p hp => k2 p.2 (List.of_mem_zip hp).2) (by
      have e : ((lvs many u).zip ks).map (fun p => 2 ^ (L - p.2)) = ks.map fun k => 2 ^ (L - k) := by
        rw [show (fun p : Coin × Nat => 2 ^ (L - p.2)) = (fun k => 2 ^ (L - k)) ∘ Prod.snd from rfl, ← List.map_map, List.map_snd_zip (by omega)]
      rw [e]
      exact k3)
    rw [hl, t5] at h
    have e1 : sumN u.length (fun i => ((lvs many u).getD i (.leaf 0 0)).w * cntL ts i) = sumN u.length (fun i => nearN (many.getD (u.getD i 0) 0) * cntL ts i) := sumN_congr fun i hi => by rw [hlv i hi]; rfl
    rw [e1] at h
    have e2 : (((lvs many u).zip ks).map fun p => p.1.w * p.2).sum = sumN u.length (fun i => nearN (many.getD (u.getD i 0) 0) * ks.getD i 0) := by
      have : ∀ m, m ≤ u.length → ((((lvs many u).zip ks).take m).map fun p => p.1.w * p.2).sum = sumN m (fun i => nearN (many.getD (u.getD i 0) 0) * ks.getD i 0) := by
        intro m
        induction m with
        | zero => intro _; rfl
        | succ m ih =>
          intro hm
          have hz : m < ((lvs many u).zip ks).length := by rw [List.length_zip, hl, k1]; omega
          rw [List.take_succ_eq_append_getElem hz, List.map_append, List.sum_append_nat, ih (by omega), sumN_succ, List.getElem_zip]
          have hv := hlv m (by omega)
          rw [List.getD_eq_getElem?_getD, List.getElem?_eq_getElem (by omega)] at hv
          simp only [Option.getD_some] at hv
          rw [hv]
          simp [Coin.w, List.getD_eq_getElem?_getD, List.getElem?_eq_getElem (show m < ks.length by omega)]
      have h := this u.length (Nat.le_refl _)
      rwa [List.take_of_length_le (by rw [List.length_zip, hl, k1]; omega)] at h
    rw [e2] at h
    exact h
end Go.Proofs.Ytdehkaknbmbieaa
