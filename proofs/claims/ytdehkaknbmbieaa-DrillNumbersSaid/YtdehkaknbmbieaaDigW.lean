/- Packages dos and swingleref12: digits: walks. -/
import Derived.Test.YtdehkaknbmbieaaGB
import Derived.Test.YtdehkaknbmbieaaDosE
namespace Go.Proofs.Ytdehkaknbmbieaa
set_option linter.unusedVariables false
set_option linter.unusedSimpArgs false
set_option linter.unusedSectionVars false
open Go.RowKit
set_option linter.unusedVariables false
set_option linter.unusedSimpArgs false

/-- So many decimal digits. -/
def digP (n : Nat) : Nat → List Nat
  | 0 => []
  | k + 1 => digP (n / 10) k ++ [48 + n % 10]
theorem digP_len : ∀ (k n : Nat), (digP n k).length = k
  | 0, _ => rfl
  | k + 1, n => by rw [digP, List.length_append, digP_len k]; rfl
theorem digP_lt : ∀ (k n : Nat), ∀ x ∈ digP n k, x < 256
  | 0, _, x, h => by cases h
  | k + 1, n, x, h => by
    rw [digP] at h
    rcases List.mem_append.1 h with h | h
    · exact digP_lt k _ x h
    · simp at h; omega
theorem digP_dig : ∀ (k n : Nat), ∀ x ∈ digP n k, 48 ≤ x ∧ x ≤ 57
  | 0, _, x, h => by cases h
  | k + 1, n, x, h => by
    rw [digP] at h
    rcases List.mem_append.1 h with h | h
    · exact digP_dig k _ x h
    · simp at h; omega
/-- What stands in the buffer behind i rounds: zeros, then the last i digits. -/
def digB (n k i : Nat) : List Nat := List.replicate (k - i) 0 ++ digP n i
theorem digB_step (n k i : Nat) (h : i < k) : (digB n k i).set (k - 1 - i) (48 + n / 10 ^ i % 10) = digB n k (i + 1) := by
  have e : ∀ (i n : Nat), digP n (i + 1) = (48 + n / 10 ^ i % 10) :: digP n i := by
    intro i
    induction i with
    | zero => intro n; simp [digP]
    | succ i ih =>
      intro n
      rw [digP, ih (n / 10), digP, Nat.div_div_eq_div_mul, Nat.pow_succ']
      rfl
  unfold digB
  rw [e, show k - i = (k - (i + 1)) + 1 by omega, List.replicate_succ', List.append_assoc, List.set_append_right _ _ (by simp; omega)]
  simp
  rw [show k - 1 - i - (k - (i + 1)) = 0 by omega]
  rfl
theorem digB_len (n k i : Nat) (h : i ≤ k) : (digB n k i).length = k := by unfold digB; rw [List.length_append, digP_len, List.length_replicate]; omega
end Go.Proofs.Ytdehkaknbmbieaa
