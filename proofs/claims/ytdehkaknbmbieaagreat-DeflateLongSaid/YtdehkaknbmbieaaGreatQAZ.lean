/- BlockMany: plain: the bits of a block's body, by codes, are the bits of its tokens, one by one. -/
import Derived.Test.YtdehkaknbmbieaaGreatQAY
import Derived.Laws.CopyOwn
import Derived.Test.YtdehkaknbmbieaaGreatQAE
namespace Go.Proofs.YtdehkaknbmbieaaGreat
set_option linter.unusedVariables false
set_option linter.unusedSimpArgs false
set_option linter.unusedSectionVars false
set_option linter.unusedVariables false
set_option linter.unusedSimpArgs false

theorem hcostTo_sum (l u : List Int) : ∀ i, hcostTo l u i = sumI (fun j => max 0 (min (l.getD j 0) 15) * nearI (u.getD j 0)) i
  | 0 => rfl
  | i + 1 => by rw [sumI_succ, hcostTo, hcostTo_sum l u i]
theorem sumI_plus (f g : Nat → Int) : ∀ i, sumI f i + sumI g i = sumI (fun j => f j + g j) i
  | 0 => rfl
  | i + 1 => by rw [sumI_succ, sumI_succ, sumI_succ, ← sumI_plus f g i]; omega
theorem sumI_congr {f g : Nat → Int} : ∀ i, (∀ j, j < i → f j = g j) → sumI f i = sumI g i
  | 0, _ => rfl
  | i + 1, h => by rw [sumI_succ, sumI_succ, sumI_congr i (fun j hj => h j (by omega)), h i (by omega)]
theorem addAt_get (a : List Nat) (c j : Nat) (hc : c < a.length) : (addAt a c).getD j 0 = a.getD j 0 + if j = c then 1 else 0 := by
  unfold addAt
  by_cases h : j = c
  · subst h
    rw [if_pos rfl, List.getD_eq_getElem?_getD, List.getElem?_set_self hc]
    rfl
  · rw [if_neg h, List.getD_eq_getElem?_getD, List.getElem?_set_ne (Ne.symm h), List.getD_eq_getElem?_getD]
    rfl
theorem sumI_addAt (a : List Nat) (c : Nat) (hc : c < a.length) (W : Nat → Int) : ∀ i, sumI (fun j => ((addAt a c).getD j 0 : Nat) * W j) i = sumI (fun j => (a.getD j 0 : Nat) * W j) i + if c < i then W c else 0
  | 0 => by simp [sumI]
  | i + 1 => by
    rw [sumI_succ, sumI_succ, sumI_addAt a c hc W i, addAt_get a c i hc]
    by_cases h : i = c
    · subst h
      rw [if_pos rfl, if_neg (by omega), if_pos (by omega)]
      rw [Int.natCast_add, Int.add_mul]
      simp
      omega
    · rw [if_neg h]
      by_cases h2 : c < i
      · rw [if_pos h2, if_pos (by omega)]
        simp
        omega
      · rw [if_neg h2, if_neg (by omega)]
        simp
def W1 (x : List Int) (j : Nat) : Int := max 0 (min (x.getD j 0) 15) + max 0 (longB ((j : Nat) : Int))
def W2 (y : List Int) (j : Nat) : Int := max 0 (min (y.getD j 0) 15) + backB ((j : Nat) : Int)
theorem ints_getD (a : List Nat) (j : Nat) : (ints a).getD j 0 = ((a.getD j 0 : Nat) : Int) := by
  unfold ints
  rw [List.getD_eq_getElem?_getD, List.getElem?_map, List.getD_eq_getElem?_getD]
  cases a[j]? <;> rfl
theorem sumI_cut (f : Nat → Int) (n : Nat) (hf : ∀ j, n ≤ j → f j = 0) : ∀ m, sumI f (min n m) = sumI f m
  | 0 => by rw [Nat.min_zero]
  | m + 1 => by
    rw [sumI_succ, ← sumI_cut f n hf m]
    rcases Nat.lt_or_ge m n with h | h
    · rw [Nat.min_eq_right (show m + 1 ≤ n from h), Nat.min_eq_right (show m ≤ n by omega), sumI_succ]
    · rw [hf m h, Nat.min_eq_left (show n ≤ m + 1 by omega), Nat.min_eq_left h, Int.add_zero]
theorem sumI_hc (x u : List Int) (m : Nat) (hm : m ≤ 300) : hcostTo x u (min (min x.length m) 300) = sumI (fun j => max 0 (min (x.getD j 0) 15) * nearI (u.getD j 0)) m := by
  rw [hcostTo_sum, Nat.min_eq_left (show min x.length m ≤ 300 by omega)]
  refine sumI_cut _ _ (fun j hj => ?_) m
  rw [List.getD_eq_getElem?_getD, List.getElem?_eq_none hj]
  show max 0 (min (0 : Int) 15) * _ = 0
  rw [show max 0 (min (0 : Int) 15) = 0 from rfl, Int.zero_mul]
theorem bodyI_sum (x y : List Int) (p : List Nat × List Nat) (hb : ∀ v ∈ p.1, v ≤ 100001) (hb2 : ∀ v ∈ p.2, v ≤ 100001) :
    bodyI x y p = sumI (fun j => (p.1.getD j 0 : Nat) * W1 x j) 286 + sumI (fun j => (p.2.getD j 0 : Nat) * W2 y j) 30 := by
  have hn : ∀ (a : List Nat) (j : Nat), (∀ v ∈ a, v ≤ 100001) → nearI ((ints a).getD j 0) = ((a.getD j 0 : Nat) : Int) := fun a j h => by
    rw [ints_getD]
    have := getD_le h j
    unfold nearI
    omega
  unfold bodyI
  rw [sumI_hc _ _ 286 (by omega), sumI_hc _ _ 30 (by omega)]
  have e1 : sumI (fun j => max 0 (min (x.getD j 0) 15) * nearI ((ints p.1).getD j 0)) 286 + sumI (litX p.1) 286 = sumI (fun j => (p.1.getD j 0 : Nat) * W1 x j) 286 := by
    rw [sumI_plus]
    refine sumI_congr _ (fun j _ => ?_)
    rw [hn p.1 j hb]
    unfold litX W1
    rw [Int.mul_add, Int.mul_comm (max 0 (min (x.getD j 0) 15))]
  have e2 : sumI (fun j => max 0 (min (y.getD j 0) 15) * nearI ((ints p.2).getD j 0)) 30 + sumI (bakX p.2) 30 = sumI (fun j => (p.2.getD j 0 : Nat) * W2 y j) 30 := by
    rw [sumI_plus]
    refine sumI_congr _ (fun j _ => ?_)
    rw [hn p.2 j hb2]
    unfold bakX W2
    rw [Int.mul_add, Int.mul_comm (max 0 (min (y.getD j 0) 15))]
  rw [← e1, ← e2]
  omega
/-- How many bits a token has by lengths x and y. -/
def tokBits (x y : List Int) (t : Tok) : Int :=
  if t.long = 0 then x.getD t.byte 0
  else x.getD (257 + (findL t.long.toNat 29 0).getD 0) 0 + (lBits.getD ((findL t.long.toNat 29 0).getD 0) 0 : Nat) + y.getD ((findD t.back.toNat 30 0).getD 0) 0 + (dBt ((findD t.back.toNat 30 0).getD 0) : Nat)
def bitsOf (x y : List Int) (l : List Tok) : Int := l.foldl (fun n t => n + tokBits x y t) (x.getD 256 0)
theorem bitsOf_snoc (x y : List Int) (l : List Tok) (t : Tok) : bitsOf x y (l ++ [t]) = bitsOf x y l + tokBits x y t := by unfold bitsOf; rw [List.foldl_append]; rfl
theorem longB_lits : ∀ c : Fin 257, longB ((c.val : Nat) : Int) = -1 := by decide +kernel
theorem longB_codes : ∀ c : Fin 29, longB ((257 + c.val : Nat) : Int) = ((lBits.getD c.val 0 : Nat) : Int) := by decide +kernel
theorem backB_codes : ∀ c : Fin 30, backB ((c.val : Nat) : Int) = ((dBt c.val : Nat) : Int) := by decide +kernel
theorem in15 {x : List Int} (h : ∀ v ∈ x, 0 ≤ v ∧ v ≤ 15) (j : Nat) : max 0 (min (x.getD j 0) 15) = x.getD j 0 := by
  rw [List.getD_eq_getElem?_getD]
  cases e : x[j]? with
  | none => rfl
  | some v =>
    have := h v (List.mem_of_getElem? e)
    show max 0 (min v 15) = v
    omega
theorem litC_lt {t : Tok} (h : okTok t) : litC t < 286 := by
  unfold litC
  unfold okTok at h
  split
  · omega
  · have := findL_lt ⟨t.long.toNat, by omega⟩ (show 3 ≤ t.long.toNat by omega)
    dsimp only at this
    cases e : findL t.long.toNat 29 0 with
    | none => simp
    | some r => rw [e] at this; simp at this; simp; omega
theorem bakC_lt {t : Tok} (h : okTok t) (h0 : ¬ t.long = 0) : bakC t < 30 := by
  unfold bakC
  unfold okTok at h
  obtain ⟨r, h1, h2⟩ := findD_some t.back.toNat (by omega) (by omega)
  rw [h1]
  exact h2
theorem wsum_step (x y : List Int) (p : List Nat × List Nat) (t : Tok) (hx : ∀ v ∈ x, 0 ≤ v ∧ v ≤ 15) (hy : ∀ v ∈ y, 0 ≤ v ∧ v ≤ 15) (ha : p.1.length = 286) (hb : p.2.length = 30) (ht : okTok t) :
    sumI (fun j => ((stepM p t).1.getD j 0 : Nat) * W1 x j) 286 + sumI (fun j => ((stepM p t).2.getD j 0 : Nat) * W2 y j) 30
      = sumI (fun j => (p.1.getD j 0 : Nat) * W1 x j) 286 + sumI (fun j => (p.2.getD j 0 : Nat) * W2 y j) 30 + tokBits x y t := by
  have hl := litC_lt ht
  have s1 := sumI_addAt p.1 (litC t) (by omega) (W1 x) 286
  rw [if_pos hl] at s1
  unfold stepM
  dsimp only
  rw [s1]
  by_cases h0 : t.long = 0
  · rw [if_pos h0]
    have hc : litC t = t.byte := by unfold litC; rw [if_pos h0]
    have h256 : t.byte < 257 := by unfold okTok at ht; omega
    have hB := longB_lits ⟨t.byte, h256⟩
    dsimp only at hB
    unfold tokBits
    rw [if_pos h0, hc]
    unfold W1
    rw [in15 hx, hB]
    omega
  · rw [if_neg h0]
    have hk := bakC_lt ht h0
    have s2 := sumI_addAt p.2 (bakC t) (by omega) (W2 y) 30
    rw [if_pos hk] at s2
    rw [s2]
    have hc : litC t = 257 + (findL t.long.toNat 29 0).getD 0 := by unfold litC; rw [if_neg h0]
    have hkc : bakC t = (findD t.back.toNat 30 0).getD 0 := rfl
    rw [hc] at hl ⊢
    rw [hkc] at hk ⊢
    unfold tokBits
    rw [if_neg h0]
    generalize (findL t.long.toNat 29 0).getD 0 = r at *
    generalize (findD t.back.toNat 30 0).getD 0 = q at *
    have e1 := longB_codes ⟨r, by omega⟩
    have e2 := backB_codes ⟨q, hk⟩
    dsimp only at e1 e2
    unfold W1 W2
    rw [in15 hx, in15 hy, e1, e2]
    omega
theorem sumI_zero (W : Nat → Int) : ∀ i, sumI (fun j => ((List.replicate 30 0).getD j 0 : Nat) * W j) i = 0
  | 0 => rfl
  | i + 1 => by
    rw [sumI_succ, sumI_zero W i, List.getD_eq_getElem?_getD, List.getElem?_replicate]
    split <;> simp
theorem sumI_286 (W : Nat → Int) : ∀ i, sumI (fun j => ((List.replicate 286 0).getD j 0 : Nat) * W j) i = 0
  | 0 => rfl
  | i + 1 => by
    rw [sumI_succ, sumI_286 W i, List.getD_eq_getElem?_getD, List.getElem?_replicate]
    split <;> simp
theorem bodyI_bits (x y : List Int) (hx : ∀ v ∈ x, 0 ≤ v ∧ v ≤ 15) (hy : ∀ v ∈ y, 0 ≤ v ∧ v ≤ 15) (l : List Tok) (hn : l.length ≤ 100000) (hok : ∀ t ∈ l, okTok t) :
    bodyI x y (manyF l) = bitsOf x y l := by
  have key : ∀ i, i ≤ l.length → sumI (fun j => ((manyF (l.take i)).1.getD j 0 : Nat) * W1 x j) 286 + sumI (fun j => ((manyF (l.take i)).2.getD j 0 : Nat) * W2 y j) 30 = bitsOf x y (l.take i) := by
    intro i
    induction i with
    | zero =>
      intro _
      rw [List.take_zero, manyF_nil]
      dsimp only
      rw [sumI_zero]
      have e : (List.replicate 286 0).set 256 1 = addAt (List.replicate 286 0) 256 := rfl
      rw [e, sumI_addAt _ _ (by rw [List.length_replicate]; omega), sumI_286, if_pos (by omega)]
      show 0 + W1 x 256 + 0 = x.getD 256 0
      have hB := longB_lits ⟨256, by omega⟩
      dsimp only at hB
      unfold W1
      rw [in15 hx, hB]
      omega
    | succ i ih =>
      intro h
      have hil : i < l.length := by omega
      rw [List.take_succ_eq_append_getElem hil, manyF_snoc, bitsOf_snoc, ← ih (by omega)]
      have ho := many_ok l i (by omega)
      exact wsum_step x y _ _ hx hy ho.la ho.lb (hok _ (List.getElem_mem hil))
  have ho := many_ok l l.length (Nat.le_refl _)
  have k := key l.length (Nat.le_refl _)
  rw [List.take_length] at ho k
  rw [bodyI_sum x y _ (fun v hv => by have := ho.ba v hv; omega) (fun v hv => by have := ho.bb v hv; omega), k]
theorem bitsOf_bd (x y : List Int) (hx : ∀ v ∈ x, 0 ≤ v ∧ v ≤ 15) (hy : ∀ v ∈ y, 0 ≤ v ∧ v ≤ 15) (l : List Tok) (hok : ∀ t ∈ l, okTok t) : ∀ i, i ≤ l.length → 0 ≤ bitsOf x y (l.take i) ∧ bitsOf x y (l.take i) ≤ 15 + 60 * i
  | 0, _ => by
    rw [List.take_zero]
    show 0 ≤ x.getD 256 0 ∧ x.getD 256 0 ≤ 15 + 60 * ((0 : Nat) : Int)
    have := in15 hx 256
    omega
  | i + 1, h => by
    have hil : i < l.length := by omega
    have ih := bitsOf_bd x y hx hy l hok i (by omega)
    rw [List.take_succ_eq_append_getElem hil, bitsOf_snoc]
    have hb : 0 ≤ tokBits x y l[i] ∧ tokBits x y l[i] ≤ 60 := by
      unfold tokBits
      have d1 := in15 hx l[i].byte
      split
      · omega
      · rename_i h0
        have hl := litC_lt (hok _ (List.getElem_mem hil))
        have hk := bakC_lt (hok _ (List.getElem_mem hil)) h0
        unfold litC at hl
        unfold bakC at hk
        rw [if_neg h0] at hl
        have d2 := in15 hx (257 + (findL l[i].long.toNat 29 0).getD 0)
        have d3 := in15 hy ((findD l[i].back.toNat 30 0).getD 0)
        generalize (findL l[i].long.toNat 29 0).getD 0 = r at *
        generalize (findD l[i].back.toNat 30 0).getD 0 = q at *
        have e1 := longB_codes ⟨r, by omega⟩
        have e2 := backB_codes ⟨q, hk⟩
        have b1 := longB_bd ⟨257 + r, hl⟩
        have b2 := backB_bd ⟨q, hk⟩
        dsimp only at e1 e2 b1 b2
        omega
    have e : ((i + 1 : Nat) : Int) = (i : Int) + 1 := by omega
    omega
end Go.Proofs.YtdehkaknbmbieaaGreat
namespace Go.Proofs.YtdehkaknbmbieaaGreat
set_option linter.unusedVariables false
set_option linter.unusedSimpArgs false
set_option linter.unusedSectionVars false
open Go.RowKit
set_option linter.unusedVariables false

theorem mul64_one (y : Nat) (w : World) (hy : y < 4294967296) :
    Calls Tryz.prog 118 #[.int .u64 1, .int .u64 (y : Nat)] w fun e w' => e = .returned (.tuple #[.int .u64 0, .int .u64 (y : Nat)]) ∧ w = w' := by
  have hA : bits .and .u64 1 4294967295 = 1 := by rfl
  have hB : bits .and .u64 (y : Int) 4294967295 = (y : Int) := by
    have h1 : (BitVec.ofInt 64 (y : Int)).toNat = y := by
      rw [BitVec.ofInt_natCast, BitVec.toNat_ofNat]; exact Nat.mod_eq_of_lt (by omega)
    have h2 : (BitVec.ofInt 64 4294967295).toNat = 2 ^ 32 - 1 := by rfl
    show IntKind.u64.wrap ((BitVec.ofInt 64 (y : Int) &&& BitVec.ofInt 64 4294967295).toNat : Int) = _
    rw [BitVec.toNat_and, h1, h2, Nat.and_two_pow_sub_one_eq_mod, IntKind.wrap_u64]
    omega
  have hd : (y : Int) / 4294967296 = 0 := by omega
  have hw : IntKind.u64.wrap (y : Int) = (y : Int) := by rw [IntKind.wrap_u64]; omega
  have hz : IntKind.u64.wrap 0 = 0 := by rfl
  have hm : (1 : Int) * (y : Int) = (y : Int) := by omega
  have hB0 : bits .and .u64 0 4294967295 = 0 := by rfl
  go_enter Tryz.func118, Tryz.ntmps118
  go_wp2
  go_returns
  exact ⟨rfl, rfl⟩
theorem mul_one (y : Nat) (w : World) (hy : y < 4294967296) :
    Calls Tryz.prog 82 #[.int .u64 1, .int .u64 (y : Nat)] w fun e w' => e = .returned (.tuple #[.int .u64 0, .int .u64 (y : Nat)]) ∧ w = w' := by
  go_enter Tryz.func82, Tryz.ntmps82
  go_wp2_with fail
  refine (mul64_one y w hy).mono ?_
  rintro e w' ⟨rfl, rfl⟩
  go_wp2
  go_returns
  exact ⟨rfl, rfl⟩
theorem rep_splice {α : Type} (n k m : Nat) (v z : α) (h : k ≤ m) : splice (List.replicate n v ++ List.replicate m z) n (List.replicate k v) = List.replicate (n + k) v ++ List.replicate (m - k) z := by
  unfold splice
  rw [List.length_replicate, List.take_left' (by simp), ← List.append_assoc, List.replicate_append_replicate, List.drop_append, List.length_replicate]
  simp
theorem Row.blk {w : World} {e : TypeId} {g n : Nat} {xs : List Value} (h : Row w e 1 (.slice (some ⟨g, 0, none⟩) n n) n xs) : Blk w g xs e := by
  rcases h.2 with h2 | ⟨g', cap, cur, hv, hb, hg, hle, hmx, hcs, hr⟩
  · cases h2.1
  · cases hv
    unfold Blk
    rw [hg, ← hr, ← hcs, List.take_of_length_le (by simp), Array.toArray_toList]
theorem Blk.row {w : World} {e : TypeId} {g : Nat} {xs : List Value} (h : Blk w g xs e) (n : Nat) (hn : xs.length = n) (hm : n ≤ maxLen) : Row w e 1 (.slice (some ⟨g, 0, none⟩) n n) n xs :=
  ⟨by omega, .inr ⟨g, n, xs.toArray, rfl, Nat.zero_le _, h, Nat.le_refl _, hm, by simp [hn], by rw [Nat.mul_one, List.take_of_length_le (by simp [hn])]⟩⟩
set_option maxRecDepth 100000 in
set_option maxHeartbeats 1600000 in
theorem repeat_one (g0 off c0 n : Nat) (v : Int) (w : World) (hc : w.cell? ⟨g0, off, none⟩ = some (.int .i64 v)) (hn1 : 1 ≤ n) (hn : n ≤ 1000) :
    Calls Tryz.prog 45 #[.slice (some ⟨g0, off, none⟩) 1 c0, .int .i64 (n : Nat)] w fun e w' => e = .returned (.slice (some ⟨w.heap.size, 0, none⟩) n n) ∧
      Row w' 3 1 (.slice (some ⟨w.heap.size, 0, none⟩) n n) n (List.replicate n (.int .i64 v)) ∧ Upd [] w w' ∧ w.heap.size < w'.heap.size := by
  obtain ⟨i0, hi0, hz0, hz1, hz2⟩ := info_parts infoInt
  have hsz : (Tryz.prog.info? 3).map (·.size) = some 1 := by rw [hi0]; simp [hz1]
  have hM := Lib.hid (mul_one n w (by omega))
  have hg0 : g0 < w.heap.size := World.block_lt_of_cell? w _ hc
  have hnn : decide ((n : Int) < 0) = false := decide_eq_false (by omega)
  have hnm : decide (9223372036854775807 < (n : Int)) = false := decide_eq_false (by omega)
  have hw1 : IntKind.u64.wrap (n : Int) = (n : Int) := by rw [IntKind.wrap_u64]; omega
  have hw2 : IntKind.i64.wrap (n : Int) = (n : Int) := IntWalk.i64_in _ (by omega)
  go_enter Tryz.func45, Tryz.ntmps45
  go_wp2_with fail
  refine hM.out.mono ?_
  rintro e w1 ⟨rfl, rfl⟩
  go_upto_region 7 with (refine wpList_mk _ rfl _ _ 55 rfl 3 i0 _ Tryz.underlying55 hi0 hz0 hz1 rfl .i64 .i64 _ _ n rfl rfl rfl rfl (by rw [hz2]; omega) (by unfold maxLen; omega) ?_; intro w2 hR2 hU2 hs2)
  have hB2 := hR2.blk
  have hb2 := hU2.below
  obtain ⟨m, rfl⟩ : ∃ m, n = m + 1 := ⟨n - 1, by omega⟩
  have hmin : [Value.int .i64 v].length = Nat.min 1 (m + 1) := by simp
  have hc2 : w2.cell? ⟨g0, off, none⟩ = some (.int .i64 v) := (hU2.at hg0 (by simp) off).trans hc
  have hsrc : 0 < [Value.int .i64 v].length → some (⟨w.heap.size, 0, none⟩ : Addr) = some ⟨w.heap.size, 0, none⟩ ∧ ∃ ad, some (⟨g0, off, none⟩ : Addr) = some ad ∧ ∀ j u, [Value.int .i64 v][j]? = some u → w2.cell? (ad.add j) = some u := fun _ => ⟨rfl, _, rfl, fun j u hj => by
    cases j with
    | zero => cases hj; exact hc2
    | succ j => cases hj⟩
  obtain ⟨Z, hZ⟩ : ∃ Z, Z = List.replicate (m + 1) (Value.int .i64 0) := ⟨_, rfl⟩
  rw [← hZ] at hB2
  have hZ' := Lib.hid hZ
  have hZl : Z.length = m + 1 := by rw [hZ]; simp
  clear hZ hR2 hU2
  go_wp2_with ((with_reducible show wpList _ _ _ _ _ _); refine wpList_copy_splice rfl (.tmp 31) (.tmp 32) 55 55 rfl 3 Tryz.underlying55 hsz _ _ (m + 1) (m + 1) 1 c0 rfl rfl w.heap.size 0 Z 3 hB2 [.int .i64 v] hmin hsrc (by simp; omega) (by simp [Value.oneCell']) w.heap.size w hb2 (Nat.le_refl _) ?_; intro w3 hg3 hb3)
  have hB3 : Blk w3 w.heap.size (List.replicate 1 (.int .i64 v) ++ List.replicate m (.int .i64 0)) 3 := by
    have h := hg3.out
    rw [hZ'.out, show List.replicate (m + 1) (Value.int .i64 0) = List.replicate 0 (.int .i64 v) ++ List.replicate (m + 1) (.int .i64 0) by simp] at h
    have e := rep_splice 0 1 (m + 1) (Value.int .i64 v) (Value.int .i64 0) (by omega)
    rw [show [Value.int .i64 v] = List.replicate 1 (Value.int .i64 v) by rfl, e] at h
    exact h
  clear hg3 hM hsrc hc2 hmin hb2 hB2
  go_loopg [8] m (fun g s8 wr => ∃ k, k ≤ m ∧ g = m - k ∧ s8 = .int .i64 ((k : Int) + 1) ∧ Blk wr w.heap.size (List.replicate (k + 1) (.int .i64 v) ++ List.replicate (m - k) (.int .i64 0)) 3 ∧ Below w.heap.size w wr)
  case atStart => exact ⟨0, by omega, rfl, rfl, hB3, hb3⟩
  case round =>
    obtain ⟨k, hkm, rfl, rfl, hB, hb⟩ := hrel
    by_cases hr : m = k
    · have hcz : ¬ ((k : Int) + 1 < (m : Int) + 1) := by omega
      subst hr
      go_wp2
      go_returns
      have hlt := hB.lt
      exact ⟨rfl, (by simpa using hB : Blk wr w.heap.size (List.replicate (m + 1) (.int .i64 v)) 3).row _ (by simp) (by unfold maxLen; omega), .of_below hb, hlt⟩
    · have hcz : (k : Int) + 1 < (m : Int) + 1 := by omega
      have hk0 : 0 ≤ (k : Int) + 1 := by omega
      obtain ⟨cur, hcur⟩ : ∃ cur, cur = List.replicate (k + 1) (Value.int .i64 v) ++ List.replicate (m - k) (Value.int .i64 0) := ⟨_, rfl⟩
      obtain ⟨cs, hcs⟩ : ∃ cs, cs = List.replicate (min (k + 1) (m - k)) (Value.int .i64 v) := ⟨_, rfl⟩
      have hl1 : cs.length = Nat.min (k + 1) (m - k) := by rw [hcs]; simp
      have hfit : k + 1 + cs.length ≤ cur.length := by rw [hcs, hcur]; simp; omega
      have hone : ∀ u ∈ cs, u.oneCell' = true := by intro u hu; rw [hcs] at hu; rw [(List.mem_replicate.1 hu).2]; rfl
      have hsrc : ∀ j u, cs[j]? = some u → wr.drew.cell? ((⟨w.heap.size, 0, none⟩ : Addr).add j) = some u := fun j u hj => by
        rw [hcs] at hj
        have hj' : j < min (k + 1) (m - k) := by have := (List.getElem?_eq_some_iff.1 hj).1; simpa using this
        have hu : u = .int .i64 v := by obtain ⟨h1, h2⟩ := List.getElem?_eq_some_iff.1 hj; rw [← h2]; simp
        have h := hB.cell j (v := .int .i64 v) (by rw [List.getElem?_append_left (by simp; omega), List.getElem?_replicate]; simp; omega)
        rw [hu]
        cases j with
        | zero => exact h
        | succ j => simpa [Addr.add] using h
      rw [← hcur] at hB
      have hBd : wr.drew.heap[w.heap.size]? = some (Obj.cells cur.toArray 3 (0, 0)) := hB
      have hbd := hb.drew
      have HC := Lib.hid hcur
      have HS := Lib.hid hcs
      have HL := Lib.hid hl1
      have HSRC := Lib.hid hsrc
      have HONE := Lib.hid hone
      have HB := Lib.hid hBd
      clear hcur hcs hl1 hsrc hone hB hBd
      have hl2 : cs.length ≤ 1000 := by have := HL.out; simp only [Nat.min_def] at this; split at this <;> omega
      go_wp2
      go_region_law ((refine step_copy_splice (by rfl) (.tmp 41) (.tmp 44) 55 55 (by rfl) 3 Tryz.underlying55 hsz (some ⟨w.heap.size, k + 1, none⟩) (some ⟨w.heap.size, 0, none⟩) (m - k) (m - k) (k + 1) (m + 1) (by simp [Act.put, Act.eval]) (by simp [Act.put, Act.eval]) w.heap.size (k + 1) cur 3 HB.out cs HL.out (fun _ => ⟨rfl, _, rfl, HSRC.out⟩) hfit HONE.out w.heap.size w hbd (Nat.le_refl _) ?_; intro w4 hg4 hb4))
      all_goals go_wp2
      all_goals (
        have hj := HL.out
        have hj1 : cs.length = min (k + 1) (m - k) := hj
        have hcs := HS.out
        rw [← hj1] at hcs
        have h4 := hg4.out
        rw [HC.out, hcs, rep_splice (k + 1) cs.length (m - k) (Value.int .i64 v) (Value.int .i64 0) (by omega), show k + 1 + cs.length = k + cs.length + 1 by omega, show m - k - cs.length = m - (k + cs.length) by omega] at h4)
      all_goals go_roundg (m - (k + cs.length))
      all_goals first
        | omega
        | (refine ⟨k + cs.length, by omega, rfl, by rw [show IntKind.i64.wrap ((k : Int) + 1 + (cs.length : Int)) = (k : Int) + 1 + (cs.length : Int) from IntWalk.i64_in _ (by omega)]; congr 1; omega, h4, hb4⟩)
end Go.Proofs.YtdehkaknbmbieaaGreat
namespace Go.Proofs.YtdehkaknbmbieaaGreat
set_option linter.unusedVariables false
set_option linter.unusedSimpArgs false
set_option linter.unusedSectionVars false
open Go.RowKit
set_option linter.unusedVariables false

def fixRows : List (Nat × Nat) := [(144, 8), (112, 9), (24, 7), (8, 8)]
def fixP (i : Nat) : List Nat := (fixRows.take i).flatMap fun r => List.replicate r.1 r.2
def fixCells : List Value := [.int .i64 144, .int .i64 8, .int .i64 112, .int .i64 9, .int .i64 24, .int .i64 7, .int .i64 8, .int .i64 8]
theorem fixP_len (i : Nat) : (fixP i).length ≤ 288 := by
  unfold fixP fixRows
  rcases i with _ | _ | _ | _ | i <;> simp only [List.take_zero, List.take_succ_cons, List.take_nil, List.flatMap_cons, List.flatMap_nil, List.length_append, List.length_replicate, List.length_nil, Nat.zero_add] <;> omega
theorem fixP_step (i : Nat) (h : i < 4) : fixP (i + 1) = fixP i ++ List.replicate (fixRows.getD i (0, 0)).1 (fixRows.getD i (0, 0)).2 := by
  have ht : fixRows.take (i + 1) = fixRows.take i ++ [fixRows.getD i (0, 0)] := by
    rw [List.take_add_one, List.getD_eq_getElem?_getD, List.getElem?_eq_getElem (show i < fixRows.length from h)]
    rfl
  unfold fixP
  rw [ht, List.flatMap_append]
  simp only [List.flatMap_cons, List.flatMap_nil, List.append_nil]
def FixRel (w wr : World) (b : Nat) (v : Value) (i : Nat) : Prop :=
  Row wr 3 1 v (fixP i).length (i64s (fixP i)) ∧ Upd [] w wr ∧ Blk wr b fixCells 86 ∧ v.ownBlock ≠ some b ∧ ∀ k, v.ownBlock = some k → w.heap.size ≤ k

set_option maxRecDepth 100000 in
set_option maxHeartbeats 3200000 in
theorem fixed_any (w : World) : Calls Tryz.prog 23 #[] w fun e w' => ∃ g1 c1 g2, e = .returned (.tuple #[.slice (some ⟨g1, 0, none⟩) 288 c1, .slice (some ⟨g2, 0, none⟩) 32 32]) ∧
    Row w' 3 1 (.slice (some ⟨g1, 0, none⟩) 288 c1) 288 (i64s (fixP 4)) ∧ Row w' 3 1 (.slice (some ⟨g2, 0, none⟩) 32 32) 32 (i64s (List.replicate 32 5)) ∧ Upd [] w w' ∧ w.heap.size ≤ g1 ∧ w.heap.size ≤ g2 := by
  obtain ⟨i0, hi0, hz0, hz1, hz2⟩ := info_parts infoInt
  go_enter Tryz.func23, Tryz.ntmps23
  go_wp2
  go_loopg [0, 10] 4 (fun g s0 s10 wr => ∃ i, i ≤ 4 ∧ g = 4 - i ∧ s10 = .int .i64 (i : Nat) ∧ FixRel w wr w.heap.size s0 i)
  case atStart => exact ⟨0, by omega, rfl, rfl, Row.nil _ _ _, (Upd.refl _ _).alloc _, Blk.new _ _ _, by simp [Value.ownBlock], by simp [Value.ownBlock]⟩
  case round =>
    obtain ⟨i, hi, rfl, rfl, hRow, hU, hB, hne, hnew⟩ := hrel
    by_cases hc : i < 4
    · have hcz : (i : Int) < 4 := by omega
      obtain ⟨r, hr⟩ : ∃ r, r = fixRows.getD i (0, 0) := ⟨_, rfl⟩
      have hst := fixP_step i hc
      rw [← hr] at hst
      have d0 : wr.cell? ⟨w.heap.size, i * 2, none⟩ = some (.int .i64 (r.1 : Nat)) := hB.cell (i * 2) (by rw [hr]; rcases i with _ | _ | _ | _ | i <;> first | rfl | omega)
      have d1 : wr.cell? ⟨w.heap.size, i * 2 + 1, none⟩ = some (.int .i64 (r.2 : Nat)) := hB.cell (i * 2 + 1) (by rw [hr]; rcases i with _ | _ | _ | _ | i <;> first | rfl | omega)
      have hr1 : 1 ≤ r.1 ∧ r.1 ≤ 144 ∧ r.2 ≤ 15 := by rw [hr]; rcases i with _ | _ | _ | _ | i <;> first | decide | omega
      have hlen := fixP_len i
      obtain ⟨n, x⟩ := r
      simp only at d0 d1 hr1 hst
      generalize fixP i = L at *
      clear hr
      go_wp2_with fail
      have hU2 : Upd [] wr ((wr.alloc (Obj.cells #[.int .i64 (n : Nat), .int .i64 (x : Nat)] 86)).alloc (Obj.cells #[.int .i64 (x : Nat)] 3)) := ((Upd.refl [] wr).alloc _).alloc _
      have hcc : ((wr.alloc (Obj.cells #[.int .i64 (n : Nat), .int .i64 (x : Nat)] 86)).alloc (Obj.cells #[.int .i64 (x : Nat)] 3)).cell? ⟨wr.heap.size + 1, 0, none⟩ = some (.int .i64 (x : Nat)) := by
        have h := (Blk.new (wr.alloc (Obj.cells #[.int .i64 (n : Nat), .int .i64 (x : Nat)] 86)) [.int .i64 (x : Nat)] 3).cell 0 rfl
        rw [World.size_alloc] at h
        exact h
      generalize ((wr.alloc (Obj.cells #[.int .i64 (n : Nat), .int .i64 (x : Nat)] 86)).alloc (Obj.cells #[.int .i64 (x : Nat)] 3)) = w2 at *
      refine (repeat_one (wr.heap.size + 1) 0 1 n x w2 hcc hr1.1 (by omega)).mono ?_
      rintro e w5 ⟨rfl, hR5, hU5, hs5⟩
      have hRow5 := (hRow.upd hU2 (by simp)).upd hU5 (by simp)
      have hB5 := (hB.upd hU2 (by simp)).upd hU5 (by simp)
      have hUw5 := (hU.then hU2).then hU5
      have hnl : (List.replicate n (Value.int .i64 (x : Nat))).length = n * 1 := by simp
      have hnews : ∀ j u, (List.replicate n (Value.int .i64 (x : Nat)))[j]? = some u → w5.cell? ((⟨w2.heap.size, 0, none⟩ : Addr).add j) = some u := fun j u hj => by
        have h := hR5.cell j hj
        cases j with
        | zero => exact h
        | succ j => simpa [Addr.add] using h
      have hone : ∀ u ∈ List.replicate n (Value.int .i64 (x : Nat)), u.oneCell' = true := by intro u hu; rw [(List.mem_replicate.1 hu).2]; rfl
      clear hRow hB hU hU2 hcc hR5 hs5 d0 d1
      obtain ⟨news, hnw⟩ : ∃ l, l = List.replicate n (Value.int .i64 (x : Nat)) := ⟨_, rfl⟩
      rw [← hnw] at hnl hnews hone
      have HNW := Lib.hid hnw
      have HNEWS := Lib.hid hnews
      have HONE := Lib.hid hone
      clear hnw hnews hone
      go_wp2_with (at_builtin; refine wpList_app _ rfl _ _ 55 rfl 3 i0 _ 1 8 Tryz.underlying55 hi0 hz0 hz1 hz2 rfl (by omega) _ L.length _ rfl hRow5 ⟨w2.heap.size, 0, none⟩ n n news rfl hnl HNEWS.out HONE.out (by unfold maxLen; omega) (by omega) ?_)
      intro v9 w9 hR9 hU9 hT9
      go_wp2
      go_roundg (4 - (i + 1))
      case measure => omega
      case rel =>
        refine ⟨i + 1, by omega, rfl, rfl, ?_, ?_, ?_, ?_, ?_⟩
        · rw [hst, List.length_append, List.length_replicate]
          rw [HNW.out] at hR9
          simpa [i64s, List.map_append] using hR9
        · exact hUw5.trans hU9 (fun k hk => .inr (hnew k (by simpa using hk)))
        · exact hB5.upd hU9 (by simpa [eq_comm] using hne)
        · exact hT9.ne hB5.lt hne
        · intro k hk
          rcases hT9 with h | ⟨g, h1, h2⟩
          · rw [h] at hk; exact hnew k hk
          · rw [h1] at hk; cases hk; exact Nat.le_trans hUw5.size h2
    · have hcz : ¬ (i : Int) < 4 := by omega
      have hi4 : i = 4 := by omega
      subst hi4
      have hL4 : (fixP 4).length = 288 := by
        unfold fixP fixRows
        simp only [List.take_succ_cons, List.take_nil, List.flatMap_cons, List.flatMap_nil, List.length_append, List.length_replicate, List.length_nil]
      rw [hL4] at hRow
      generalize hL : fixP 4 = L4 at *
      have HL := Lib.hid hL
      clear hL
      obtain ⟨g1, c1, rfl, hg1, hg2⟩ := hRow.form' (by omega)
      have hgw : w.heap.size ≤ g1 := hnew g1 rfl
      go_wp2_with fail
      have hU2 : Upd [] wr (wr.alloc (Obj.cells #[.int .i64 5] 3)) := (Upd.refl [] wr).alloc _
      have hcc := (Blk.new wr [.int .i64 5] 3).cell 0 rfl
      refine (repeat_one wr.heap.size 0 1 32 5 _ hcc (by omega) (by omega)).mono ?_
      rintro e w5 ⟨rfl, hR5, hU5, hs5⟩
      have hsz := hU2.size
      generalize wr.alloc (Obj.cells #[.int .i64 5] 3) = w2 at *
      have hRow5 := (hRow.upd hU2 (by simp)).upd hU5 (by simp)
      have hUw5 := (hU.then hU2).then hU5
      go_wp2
      go_returns
      exact ⟨g1, c1, w2.heap.size, rfl, by rw [HL.out]; exact hRow5, hR5, hUw5, hgw, Nat.le_trans hU.size hsz⟩
end Go.Proofs.YtdehkaknbmbieaaGreat
