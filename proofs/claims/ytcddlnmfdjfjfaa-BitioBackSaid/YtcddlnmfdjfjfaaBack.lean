/- Plain mathematics of what is written and read again: bits of packed bytes; codes of symbols read bit by bit; costs. -/
import Derived.Test.YtcddlnmfdjfjfaaRef4N
import Derived.Test.YtcddlnmfdjfjfaaWrite
import Derived.Test.YtcddlnmfdjfjfaaCost
namespace Go.Proofs.Ytcddlnmfdjfjfaa
open Go.RowKit
set_option linter.unusedVariables false

theorem IntsIn.far {w w' : World} {a : Option Addr} {len : Nat} {l : List Int} {fp : List Nat} (h : IntsIn w a len l) (hU : Upd fp w w') (hf : ∀ k ∈ fp, w.heap.size ≤ k) : IntsIn w' a len l :=
  ⟨h.len, fun i hi => by
    obtain ⟨b, off, e, c, r⟩ := h.cell i hi
    have hb : b < w.heap.size := World.block_lt_of_cell? w _ c
    exact ⟨b, off, e, (hU.at hb (fun hm => by have := hf b hm; omega) _).trans c, r⟩⟩

theorem val_pad (L : List Bool) (k a n : Nat) : val (((L ++ List.replicate k false).drop a).take n) = val ((L.drop a).take n) := by
  rw [List.drop_append, List.take_append, val_append, List.drop_replicate, List.take_replicate, val_replicate_false]; simp
theorem textBits_outs (L : List Bool) (m : Nat) (h : 8 * m ≤ L.length) : textBits (outs L m) = L.take (8 * m) := by
  induction m with
  | zero => simp [outs, textBits]
  | succ m ih =>
    rw [outs_succ, textBits_snoc, ih (by omega)]
    have h1 : ((L.drop (8 * m)).take 8).length = 8 := by rw [List.length_take, List.length_drop]; omega
    have h2 := low_val ((L.drop (8 * m)).take 8)
    rw [h1] at h2
    rw [chunk, h2, ← List.take_add]; rfl
theorem textBits_pack (L : List Bool) : textBits (pack L) = alignL L := by
  have e : pack L = outs (alignL L) ((L.length + 7) / 8) := by
    unfold pack outs
    apply List.map_congr_left
    intro i _
    unfold chunk alignL
    rw [val_pad]
  rw [e, textBits_outs _ _ (by rw [length_alignL]; omega), ← length_alignL, List.take_length]
theorem pack_lt (L : List Bool) : ∀ x ∈ pack L, x < 256 := outs_lt L _
theorem sbits_pack (L : List Bool) : sbits (strOf (pack L)) = alignL L := by
  rw [sbits, bytesOf_strOf _ (pack_lt L), textBits_pack]
theorem size_pack (L : List Bool) : (strOf (pack L)).size = (L.length + 7) / 8 := by rw [size_strOf, pack, length_outs]
/-- A number read out of what was written. -/
theorem rdVal_mid (A M B : List Bool) (n a : Nat) (h : a + n ≤ M.length) : rdVal (strOf (pack (A ++ M ++ B))) (A.length + a) n = val ((M.drop a).take n) := by
  unfold rdVal
  rw [sbits_pack, alignL, List.append_assoc, List.append_assoc, ← List.drop_drop, List.drop_left, List.drop_append_of_le_length (by omega), List.take_append_of_le_length (by rw [List.length_drop]; omega)]

theorem turnN_div (v k j : Nat) (h : j ≤ k) : turnN v k / 2 ^ j = turnN v (k - j) := by
  induction j with
  | zero => simp
  | succ j ih =>
    rw [Nat.pow_succ, ← Nat.div_div_eq_div_mul, ih (by omega)]
    have e : turnN v (k - j) = 2 * turnN v (k - (j + 1)) + v / 2 ^ (k - (j + 1)) % 2 := by
      rw [show k - j = (k - (j + 1)) + 1 by omega]; rfl
    have : v / 2 ^ (k - (j + 1)) % 2 < 2 := Nat.mod_lt _ (by omega)
    omega
theorem turnN_bit (v k j : Nat) (h : j < k) : turnN v k / 2 ^ j % 2 = v / 2 ^ (k - 1 - j) % 2 := by
  rw [turnN_div v k j (by omega), show k - j = (k - 1 - j) + 1 by omega]
  simp only [turnN]
  omega
theorem fst_grow (n : List Nat) (j m : Nat) : 2 ^ (m + 1) * (fst n j + cnt n j) ≤ fst n (j + m + 1) := by
  induction m with
  | zero => simp [fst]
  | succ m ih =>
    have e : fst n (j + (m + 1) + 1) = 2 * (fst n (j + m + 1) + cnt n (j + m + 1)) := rfl
    rw [e, Nat.pow_succ, Nat.mul_comm (2 ^ (m + 1)) 2, Nat.mul_assoc]
    omega
/-- A code's beginning lies behind all shorter codes. -/
theorem code_above (n : List Nat) (k j c : Nat) (hj : j < k) (hc : fst n k ≤ c) : fst n j + cnt n j ≤ c / 2 ^ (k - j) := by
  have h := fst_grow n j (k - j - 1)
  rw [show j + (k - j - 1) + 1 = k by omega, show k - j - 1 + 1 = k - j by omega] at h
  rw [Nat.le_div_iff_mul_le (Nat.two_pow_pos _), Nat.mul_comm]
  omega
theorem half_bit (c m : Nat) : 2 * (c / 2 ^ (m + 1)) + c / 2 ^ m % 2 = c / 2 ^ m := by
  rw [Nat.pow_succ, ← Nat.div_div_eq_div_mul]; omega
/-- A symbol's code is read as the symbol. -/
theorem nxtF_code (n : List Nat) (s : ByteArray) (S k c a : Nat) (hk : n.getD S 0 = k) (hk1 : 1 ≤ k) (hS : S < n.length) (hc : codeAt n S = c)
    (hb : ∀ j, j < k → rdVal s (a + j) 1 = c / 2 ^ (k - 1 - j) % 2) (hs : a + k ≤ 8 * s.size) :
    ∀ d j f, d + j + 1 = k → d + 1 ≤ f → nxtF n s f (j + 1) (a + j) (c / 2 ^ (d + 1)) = (some S, a + k, false) := by
  have hfc : fst n k ≤ c := by
    rw [← hc]; unfold codeAt; rw [hk, if_neg (by omega)]; omega
  intro d
  induction d with
  | zero =>
    intro j f hj hf
    obtain ⟨f, rfl⟩ : ∃ f', f = f' + 1 := ⟨f - 1, by omega⟩
    have e : 2 * (c / 2 ^ (0 + 1)) + rdVal s (a + j) 1 = c := by
      rw [hb j (by omega), show k - 1 - j = 0 by omega, half_bit]; simp
    have hsy : symAt n (j + 1) c = some S := by
      rw [show j + 1 = k by omega, ← hc]; exact symAt_code n S k hk1 hS hk
    rw [nxtF_some (by omega) (by rw [e]; exact hsy)]
    have : a + j + 1 = a + k := by omega
    rw [this]
  | succ d ih =>
    intro j f hj hf
    obtain ⟨f, rfl⟩ : ∃ f', f = f' + 1 := ⟨f - 1, by omega⟩
    have e : 2 * (c / 2 ^ (d + 1 + 1)) + rdVal s (a + j) 1 = c / 2 ^ (d + 1) := by
      rw [hb j (by omega), show k - 1 - j = d + 1 by omega, half_bit]
    have hab := code_above n k (j + 1) c (by omega) hfc
    rw [show k - (j + 1) = d + 1 by omega] at hab
    have hsy : symAt n (j + 1) (c / 2 ^ (d + 1)) = none := symAt_none' _ _ _ (by omega)
    rw [nxtF_none (by omega) (by rw [e]; exact hsy), e, Nat.add_assoc a j 1]
    exact ih (j + 1) f (by omega) (by omega)
theorem val_bit1 (k t j : Nat) (h : j < k) : val (((low k t).drop j).take 1) = t / 2 ^ j % 2 := by
  rw [val_take _ _ (by rw [List.length_drop, length_low]; omega), val_drop _ _ (by rw [length_low]; omega), val_low]
  have e : 2 ^ k = 2 ^ j * 2 ^ (k - j) := by rw [← Nat.pow_add]; congr 1; omega
  rw [e, Nat.mod_mul_right_div_self, show k - j = (k - j - 1) + 1 by omega, Nat.pow_succ, Nat.pow_one, Nat.mod_mul_left_mod]
/-- Of written symbols the one behind A is read. -/
theorem nxt_back (n : List Nat) (A B : List Bool) (S : Nat) (hps : psum n 16 ≤ 32768) (h15 : ∀ x ∈ n, x ≤ 15) (hS : S < n.length) (h0 : n.getD S 0 ≠ 0) :
    nxt n (strOf (pack (A ++ symBits n S ++ B))) A.length false = (some S, (A ++ symBits n S).length, false) := by
  have hc := codeAt_lt n hps h15 S hS
  have hk15 : n.getD S 0 ≤ 15 := by rw [List.getD, List.getElem?_eq_getElem hS]; exact h15 _ (List.getElem_mem hS)
  have h := nxtF_code n (strOf (pack (A ++ symBits n S ++ B))) S (n.getD S 0) (codeAt n S) A.length rfl (by omega) hS rfl (fun j hj => by
      rw [rdVal_mid _ _ _ _ _ (by rw [length_symBits]; omega), symBits, val_bit1 _ _ _ hj, turnN_bit _ _ _ hj])
    (by rw [size_pack, List.length_append, List.length_append, length_symBits]; omega) (n.getD S 0 - 1) 0 15 (by omega) (by omega)
  rw [show n.getD S 0 - 1 + 1 = n.getD S 0 by omega, Nat.div_eq_of_lt hc.2] at h
  rw [List.length_append, length_symBits]
  exact h

/-- No code begins another one. -/
theorem code_apart (n : List Nat) (i j : Nat) (hi : i < n.length) (hj : j < n.length) (hne : i ≠ j) (h0 : n.getD i 0 ≠ 0) (hle : n.getD i 0 ≤ n.getD j 0) : codeAt n j / 2 ^ (n.getD j 0 - n.getD i 0) ≠ codeAt n i := by
  by_cases he : n.getD i 0 = n.getD j 0
  · rw [he, Nat.sub_self, Nat.pow_zero, Nat.div_one]
    intro h
    have h1 := symAt_code n i (n.getD i 0) (by omega) hi rfl
    have h2 := symAt_code n j (n.getD j 0) (by omega) hj rfl
    rw [h, ← he, h1] at h2
    exact hne (Option.some.inj h2)
  · have hfj : fst n (n.getD j 0) ≤ codeAt n j := by unfold codeAt; rw [if_neg (by omega)]; omega
    have h := code_above n (n.getD j 0) (n.getD i 0) (codeAt n j) (by omega) hfj
    have hci : codeAt n i < fst n (n.getD i 0) + cnt n (n.getD i 0) := by
      unfold codeAt; rw [if_neg h0]
      have hc := count_le_of n i _ hi rfl
      have hcn : cnt n (n.getD i 0) = n.count (n.getD i 0) := by unfold cnt; rw [if_neg h0]
      omega
    omega

def costN (n u : List Nat) : Nat → Nat
  | 0 => 0
  | i + 1 => costN n u i + n.getD i 0 * u.getD i 0
theorem costN_zero (n : List Nat) (k i : Nat) : costN n (List.replicate k 0) i = 0 := by
  induction i with
  | zero => rfl
  | succ i ih =>
    have : (List.replicate k 0).getD i 0 = 0 := by simp [List.getD, List.getElem?_replicate]; split <;> rfl
    simp only [costN, ih, this]; simp
theorem costN_set (n u : List Nat) (S : Nat) (hS : S < u.length) (i : Nat) : costN n (u.set S (u.getD S 0 + 1)) i = costN n u i + if S < i then n.getD S 0 else 0 := by
  induction i with
  | zero => simp [costN]
  | succ i ih =>
    simp only [costN, ih]
    by_cases h : S = i
    · subst h
      have : (u.set S (u.getD S 0 + 1)).getD S 0 = u.getD S 0 + 1 := by simp [List.getD, hS]
      rw [this, if_neg (by omega), if_pos (by omega), Nat.mul_succ]; omega
    · have : (u.set S (u.getD S 0 + 1)).getD i 0 = u.getD i 0 := by simp [List.getD, h]
      rw [this]
      by_cases h2 : S < i
      · rw [if_pos h2, if_pos (by omega)]; omega
      · rw [if_neg h2, if_neg (by omega)]; omega
theorem costTo_costN (l : List Int) (u : List Nat) (hl : ∀ k ∈ l, 0 ≤ k ∧ k ≤ 15) (hu : ∀ x ∈ u, x ≤ 1099511627776) (i : Nat) : costTo l (u.map fun x : Nat => (x : Int)) i = (costN (nats l) u i : Nat) := by
  induction i with
  | zero => rfl
  | succ i ih =>
    simp only [costTo, costN, ih]
    have h1 : max 0 (min (l.getD i 0) 15) = (((nats l).getD i 0 : Nat) : Int) := by
      simp only [nats, List.getD, List.getElem?_map]
      cases h : l[i]? with
      | none => rfl
      | some x => have := hl x (List.mem_of_getElem? h); simp; omega
    have h2 : nearI ((u.map fun x : Nat => (x : Int)).getD i 0) = ((u.getD i 0 : Nat) : Int) := by
      simp only [List.getD, List.getElem?_map]
      cases h : u[i]? with
      | none => rfl
      | some x => have := hu x (List.mem_of_getElem? h); simp [nearI]; omega
    rw [h1, h2]; simp
end Go.Proofs.Ytcddlnmfdjfjfaa
