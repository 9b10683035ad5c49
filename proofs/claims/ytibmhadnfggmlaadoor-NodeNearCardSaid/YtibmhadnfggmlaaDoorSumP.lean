/- Packages sum and swingleref02: plain: the table's step is eight steps of a bit. -/
import Derived.Test.YtibmhadnfggmlaaDoorGA
namespace Go.Proofs.YtibmhadnfggmlaaDoor
set_option linter.unusedVariables false
set_option linter.unusedSimpArgs false
set_option linter.unusedSectionVars false

def crcStep (x : Nat) : Nat := if x % 2 = 1 then (x / 2) ^^^ 3988292384 else x / 2
def crcN : Nat → Nat → Nat
  | 0, x => x
  | k + 1, x => crcN k (crcStep x)
def refBit (s b : Nat) : Nat := if (s + b) % 2 = 1 then (s / 2) ^^^ 3988292384 else s / 2
def refN : Nat → Nat → Nat → Nat
  | 0, s, _ => s
  | k + 1, s, n => refN k (refBit s (n % 2)) (n / 2)
def crcByte (s b : Nat) : Nat := crcN 8 (s ^^^ b)
def crcFeed (s : Nat) (l : List Nat) : Nat := l.foldl crcByte s

theorem xor_par (a b : Nat) : (a ^^^ b) % 2 = (a + b) % 2 := by
  have h := Nat.xor_mod_two_pow (a := a) (b := b) (n := 1)
  rw [Nat.pow_one] at h
  rw [h]
  rcases (by omega : a % 2 = 0 ∨ a % 2 = 1) with h1 | h1 <;> rcases (by omega : b % 2 = 0 ∨ b % 2 = 1) with h2 | h2 <;> rw [h1, h2] <;> simp <;> omega
theorem xor_half (a b : Nat) : (a ^^^ b) / 2 = (a / 2) ^^^ (b / 2) := by
  rw [Nat.xor_div_two]
theorem crcStep_lt {x : Nat} (h : x < 4294967296) : crcStep x < 4294967296 := by
  unfold crcStep
  split
  · exact Nat.xor_lt_two_pow (n := 32) (by omega) (by omega)
  · omega
theorem crcN_lt : ∀ (k : Nat) {x : Nat}, x < 4294967296 → crcN k x < 4294967296
  | 0, _, h => h
  | k + 1, _, h => crcN_lt k (crcStep_lt h)
theorem refBit_eq (s n : Nat) : refBit s (n % 2) ^^^ (n / 2) = crcStep (s ^^^ n) := by
  unfold refBit crcStep
  rw [xor_par, xor_half, show (s + n % 2) % 2 = (s + n) % 2 by omega]
  split
  · rw [Nat.xor_assoc, Nat.xor_comm 3988292384, ← Nat.xor_assoc]
  · rfl
theorem refN_eq : ∀ (k s n : Nat), n < 2 ^ k → refN k s n = crcN k (s ^^^ n)
  | 0, s, n, h => by
    have : n = 0 := by simpa using h
    subst this
    show s = s ^^^ 0
    rw [Nat.xor_zero]
  | k + 1, s, n, h => by
    show refN k (refBit s (n % 2)) (n / 2) = crcN k (crcStep (s ^^^ n))
    rw [refN_eq k _ _ (by rw [Nat.pow_succ] at h; omega), refBit_eq]
theorem crcStep_twice (x z : Nat) : crcStep (x ^^^ (2 * z)) = crcStep x ^^^ z := by
  unfold crcStep
  rw [xor_par, xor_half, show (x + 2 * z) % 2 = x % 2 by omega, show 2 * z / 2 = z by omega]
  split
  · rw [Nat.xor_assoc, Nat.xor_comm z, ← Nat.xor_assoc]
  · rfl
theorem crcN_high : ∀ (k x y : Nat), crcN k (x ^^^ (2 ^ k * y)) = crcN k x ^^^ y
  | 0, x, y => by simp [crcN]
  | k + 1, x, y => by
    show crcN k (crcStep (x ^^^ (2 ^ (k + 1) * y))) = crcN k (crcStep x) ^^^ y
    rw [show 2 ^ (k + 1) * y = 2 * (2 ^ k * y) by rw [Nat.pow_succ, Nat.mul_comm (2 ^ k) 2, Nat.mul_assoc], crcStep_twice, crcN_high k]
theorem xor_split (s : Nat) : (s % 256) ^^^ (2 ^ 8 * (s / 256)) = s := by
  apply Nat.eq_of_testBit_eq
  intro i
  have h := Nat.testBit_two_pow_mul_add (s / 256) (i := 8) (b := s % 256) (by omega) i
  rw [show 2 ^ 8 * (s / 256) + s % 256 = s by omega] at h
  rw [Nat.testBit_xor, Nat.testBit_two_pow_mul, h]
  by_cases hi : i < 8
  · rw [decide_eq_false (show ¬ i ≥ 8 by omega), if_pos hi]; simp
  · have h0 : (s % 256).testBit i = false := Nat.testBit_lt_two_pow (Nat.lt_of_lt_of_le (Nat.mod_lt s (by omega)) (show 256 ≤ 2 ^ i from Nat.pow_le_pow_right (n := 2) (by omega) (show 8 ≤ i by omega)))
    rw [decide_eq_true (show i ≥ 8 by omega), if_neg hi, h0]; simp
/-- The step by a table. -/
theorem crc_table (s b : Nat) : crcN 8 ((s % 256) ^^^ b) ^^^ (s / 256) = crcByte s b := by
  unfold crcByte
  have e : s ^^^ b = ((s % 256) ^^^ b) ^^^ (2 ^ 8 * (s / 256)) := by
    rw [Nat.xor_assoc, Nat.xor_comm b, ← Nat.xor_assoc, xor_split]
  rw [e, crcN_high]
theorem crcByte_lt {s b : Nat} (hs : s < 4294967296) (hb : b < 256) : crcByte s b < 4294967296 := crcN_lt 8 (Nat.xor_lt_two_pow (n := 32) hs (by omega))
theorem crcFeed_lt : ∀ (l : List Nat) {s : Nat}, s < 4294967296 → (∀ x ∈ l, x < 256) → crcFeed s l < 4294967296
  | [], _, h, _ => h
  | x :: l, _, h, hl => crcFeed_lt l (crcByte_lt h (hl x (by simp))) (fun y hy => hl y (by simp [hy]))
theorem crcFeed_snoc (s : Nat) (l : List Nat) (x : Nat) : crcFeed s (l ++ [x]) = crcByte (crcFeed s l) x := by simp [crcFeed]
def crcOf (s : ByteArray) : Nat := 4294967295 - crcFeed 4294967295 (bytesOf s)
end Go.Proofs.YtibmhadnfggmlaaDoor
