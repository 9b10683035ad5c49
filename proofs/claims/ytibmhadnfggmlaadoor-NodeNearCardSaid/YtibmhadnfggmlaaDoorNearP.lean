/- Package node (plain): the print of a node that may be may be; one bit that is another one makes another sum. -/
import Derived.Test.YtibmhadnfggmlaaDoorNTxP
import Derived.Test.YtibmhadnfggmlaaDoorNodeSd
namespace Go.Proofs.YtibmhadnfggmlaaDoor
set_option linter.unusedVariables false
set_option linter.unusedSimpArgs false
set_option linter.unusedSectionVars false
open Go.RowKit
set_option linter.unusedVariables false

theorem crcStep_inj {x y : Nat} (hx : x < 4294967296) (hy : y < 4294967296) (h : crcStep x = crcStep y) : x = y := by
  have hp : ∀ z, z < 2147483648 → 2147483648 ≤ z ^^^ 3988292384 := by
    intro z hz
    have h1 : (z ^^^ 3988292384) / 2147483648 = 1 := by
      have := Nat.xor_div_two_pow (a := z) (b := 3988292384) (n := 31)
      rw [show (2 : Nat) ^ 31 = 2147483648 from rfl] at this
      rw [this, Nat.div_eq_of_lt hz]
      rfl
    omega
  have hc : ∀ a b : Nat, a ^^^ 3988292384 = b ^^^ 3988292384 → a = b := by
    intro a b e
    have : (a ^^^ 3988292384) ^^^ 3988292384 = (b ^^^ 3988292384) ^^^ 3988292384 := by rw [e]
    rwa [Nat.xor_assoc, Nat.xor_assoc, Nat.xor_self, Nat.xor_zero, Nat.xor_zero] at this
  unfold crcStep at h
  by_cases h1 : x % 2 = 1
  · rw [if_pos h1] at h
    by_cases h2 : y % 2 = 1
    · rw [if_pos h2] at h
      have := hc _ _ h
      omega
    · rw [if_neg h2] at h
      have := hp (x / 2) (by omega)
      omega
  · rw [if_neg h1] at h
    by_cases h2 : y % 2 = 1
    · rw [if_pos h2] at h
      have := hp (y / 2) (by omega)
      omega
    · rw [if_neg h2] at h
      omega
theorem crcN_inj : ∀ (k : Nat) {x y : Nat}, x < 4294967296 → y < 4294967296 → crcN k x = crcN k y → x = y
  | 0, _, _, _, _, h => h
  | k + 1, _, _, hx, hy, h => crcStep_inj hx hy (crcN_inj k (crcStep_lt hx) (crcStep_lt hy) h)
theorem xor_left_inj {a b c : Nat} (h : a ^^^ b = a ^^^ c) : b = c := by
  have : a ^^^ (a ^^^ b) = a ^^^ (a ^^^ c) := by rw [h]
  rwa [← Nat.xor_assoc, ← Nat.xor_assoc, Nat.xor_self, Nat.zero_xor, Nat.zero_xor] at this
theorem xor_right_inj {a b c : Nat} (h : b ^^^ a = c ^^^ a) : b = c := xor_left_inj (by rw [Nat.xor_comm a b, Nat.xor_comm a c]; exact h)
theorem xor_bd {s b : Nat} (hs : s < 4294967296) (hb : b < 256) : s ^^^ b < 4294967296 := Nat.xor_lt_two_pow (n := 32) hs (by omega)
theorem crcFeed_inj : ∀ (l : List Nat) {s t : Nat}, s < 4294967296 → t < 4294967296 → (∀ x ∈ l, x < 256) → crcFeed s l = crcFeed t l → s = t
  | [], _, _, _, _, _, h => h
  | b :: r, s, t, hs, ht, hl, h => by
    have hb := hl b (by simp)
    have := crcFeed_inj r (crcByte_lt hs hb) (crcByte_lt ht hb) (fun x hx => hl x (by simp [hx])) h
    unfold crcByte at this
    exact xor_right_inj (crcN_inj 8 (xor_bd hs hb) (xor_bd ht hb) this)
theorem crcFeed_append (s : Nat) (a b : List Nat) : crcFeed s (a ++ b) = crcFeed (crcFeed s a) b := by simp [crcFeed]
theorem crcFeed_set (s : Nat) (hs : s < 4294967296) (l : List Nat) (hl : ∀ x ∈ l, x < 256) (j : Nat) (hj : j < l.length) (y : Nat) (hy : y < 256) (hne : y ≠ l[j]) : crcFeed s (l.set j y) ≠ crcFeed s l := by
  intro h
  have e1 : l.set j y = l.take j ++ y :: l.drop (j + 1) := List.set_eq_take_append_cons_drop.trans (if_pos hj)
  have e2 : l = l.take j ++ l[j] :: l.drop (j + 1) := by
    conv => lhs; rw [← List.take_append_drop j l, List.drop_eq_getElem_cons hj]
  rw [e1] at h
  conv at h => rhs; rw [e2]
  rw [crcFeed_append, crcFeed_append] at h
  have hA : crcFeed s (l.take j) < 4294967296 := crcFeed_lt _ hs (fun x hx => hl x (List.mem_of_mem_take hx))
  have hz := hl l[j] (List.getElem_mem hj)
  have h2 : crcByte (crcFeed s (l.take j)) y = crcByte (crcFeed s (l.take j)) l[j] :=
    crcFeed_inj (l.drop (j + 1)) (crcByte_lt hA hy) (crcByte_lt hA hz) (fun x hx => hl x (List.mem_of_mem_drop hx)) h
  unfold crcByte at h2
  exact hne (xor_left_inj (crcN_inj 8 (xor_bd hA hy) (xor_bd hA hz) h2))
theorem xor_one_ne (x : Nat) : x ^^^ 1 ≠ x := by
  intro h
  have : x ^^^ (x ^^^ 1) = x ^^^ x := by rw [h]
  rw [← Nat.xor_assoc, Nat.xor_self, Nat.zero_xor] at this
  cases this
theorem xor_one_lt {x : Nat} (h : x < 256) : x ^^^ 1 < 256 := Nat.xor_lt_two_pow (n := 8) h (by decide)
/-- The bytes with one bit that is another one. -/
def flipL (D : ByteArray) (j : Nat) : List Nat := (bytesOf D).set j ((bytesOf D).getD j 0 ^^^ 1)
theorem flipL_lt (D : ByteArray) (j : Nat) (hj : j < D.size) : ∀ x ∈ flipL D j, x < 256 := by
  intro x hx
  have hl : j < (bytesOf D).length := by rw [length_bytesOf]; exact hj
  unfold flipL at hx
  rcases List.mem_or_eq_of_mem_set hx with h | h
  · exact bytesOf_lt D x h
  · rw [h, List.getD_eq_getElem?_getD, List.getElem?_eq_getElem hl]
    exact xor_one_lt (bytesOf_lt D _ (List.getElem_mem hl))
theorem flipL_len (D : ByteArray) (j : Nat) : (flipL D j).length = D.size := by unfold flipL; rw [List.length_set, length_bytesOf]
theorem crc_flip (D : ByteArray) (j : Nat) (hj : j < D.size) : crcOf (strOf (flipL D j)) ≠ crcOf D := by
  have hl : j < (bytesOf D).length := by rw [length_bytesOf]; exact hj
  have hb := bytesOf_strOf _ (flipL_lt D j hj)
  have h1 := crcFeed_set 4294967295 (by decide) (bytesOf D) (bytesOf_lt D) j hl ((bytesOf D)[j] ^^^ 1) (xor_one_lt (bytesOf_lt D _ (List.getElem_mem hl))) (xor_one_ne _)
  have e : flipL D j = (bytesOf D).set j ((bytesOf D)[j] ^^^ 1) := by
    unfold flipL; rw [List.getD_eq_getElem?_getD, List.getElem?_eq_getElem hl]; rfl
  have a1 : crcFeed 4294967295 (flipL D j) < 4294967296 := crcFeed_lt _ (by decide) (flipL_lt D j hj)
  have a2 : crcFeed 4294967295 (bytesOf D) < 4294967296 := crcFeed_lt _ (by decide) (bytesOf_lt D)
  unfold crcOf
  rw [hb]
  rw [← e] at h1
  omega
theorem crc_none (D : ByteArray) (h : D.size = 0) : crcOf D = 0 := by
  have : bytesOf D = [] := List.eq_nil_of_length_eq_zero (by rw [length_bytesOf]; exact h)
  unfold crcOf
  rw [this]
  rfl
theorem fine_of_right {k m : Int} {t : Nat} {D : ByteArray} (h : nodeErr k m t D = 0) : fineB k m t D.size (if k = 1 then crcOf D else 0) = true := by
  have hd : D.toList = [] ↔ D.size = 0 := by
    rw [ByteArray.toList_eq]
    rw [show D.size = D.data.toList.length by simp]
    exact List.length_eq_zero_iff.symm
  unfold nodeErr at h
  by_cases h1 : k < 0 ∨ 2 < k
  · rw [if_pos h1] at h; cases h
  rw [if_neg h1] at h
  by_cases h2 : k = 0 ∧ (m ≠ 0 ∨ t ≠ 0 ∨ D.toList ≠ [])
  · rw [if_pos h2] at h; cases h
  rw [if_neg h2] at h
  by_cases h3 : k = 2 ∧ (D.toList ≠ [] ∨ t ≠ 0)
  · rw [if_pos h3] at h; cases h
  rw [if_neg h3] at h
  by_cases h4 : m < 0 ∨ 511 < m
  · rw [if_pos h4] at h; cases h
  rw [if_neg h4] at h
  by_cases h5 : k = 1 ∧ timeB t = false
  · rw [if_pos h5] at h; cases h
  rw [if_neg h5] at h
  by_cases h6 : 65000 < D.size
  · rw [if_pos h6] at h; cases h
  clear h
  unfold fineB
  rcases (by omega : k = 0 ∨ k = 1 ∨ k = 2) with rfl | rfl | rfl
  · have h2' : m = 0 ∧ t = 0 ∧ D.toList = [] := by
      refine ⟨?_, ?_, ?_⟩
      · exact Classical.byContradiction fun e => h2 ⟨rfl, .inl e⟩
      · exact Classical.byContradiction fun e => h2 ⟨rfl, .inr (.inl e)⟩
      · exact Classical.byContradiction fun e => h2 ⟨rfl, .inr (.inr e)⟩
    rw [if_pos rfl, if_neg (by decide)]
    exact decide_eq_true ⟨h2'.1, h2'.2.1, by rw [hd.1 h2'.2.2]; rfl, rfl⟩
  · rw [if_neg (by decide), if_neg (by decide), if_pos rfl, if_pos rfl]
    refine decide_eq_true ⟨by omega, by omega, ?_, by omega, by omega, ?_⟩
    · cases ht : timeB t with
      | true => rfl
      | false => exact absurd ⟨rfl, ht⟩ h5
    · rcases Nat.eq_zero_or_pos D.size with e | e
      · exact .inr (crc_none D e)
      · exact .inl (by omega)
  · have h3' : t = 0 ∧ D.toList = [] := by
      refine ⟨?_, ?_⟩
      · exact Classical.byContradiction fun e => h3 ⟨rfl, .inr e⟩
      · exact Classical.byContradiction fun e => h3 ⟨rfl, .inl e⟩
    rw [if_neg (by decide), if_pos rfl, if_neg (by decide)]
    exact decide_eq_true ⟨by omega, by omega, h3'.1, by rw [hd.1 h3'.2]; rfl, rfl⟩
theorem crcOf_lt (D : ByteArray) : crcOf D < 4294967296 := by unfold crcOf; omega
end Go.Proofs.YtibmhadnfggmlaaDoor
