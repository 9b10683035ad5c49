/- Plain mathematics of bits in bytes, the lowest first: the number of a list of bits (val), the lowest bits of a number (low), the bytes of a list of bits (outs, pack). -/
import Derived.Laws.BitsAllLaws
namespace Go.Proofs.Ytdehkaknbmbieaa
set_option linter.unusedVariables false
set_option linter.unusedSimpArgs false
set_option linter.unusedSectionVars false

def val : List Bool → Nat
  | [] => 0
  | b :: l => b.toNat + 2 * val l
def low : Nat → Nat → List Bool
  | 0, _ => []
  | k + 1, v => (v % 2 == 1) :: low k (v / 2)

theorem val_lt (l : List Bool) : val l < 2 ^ l.length := by
  induction l with
  | nil => simp [val]
  | cons b l ih => simp only [val, List.length_cons, Nat.pow_succ]; have : b.toNat ≤ 1 := Bool.toNat_le b; omega
theorem val_append (a b : List Bool) : val (a ++ b) = val a + 2 ^ a.length * val b := by
  induction a with
  | nil => simp [val]
  | cons x a ih =>
    simp only [List.cons_append, val, ih, List.length_cons, Nat.pow_succ, Nat.mul_add]
    rw [Nat.mul_comm (2 ^ a.length) 2, Nat.mul_assoc]; omega
theorem length_low (k v : Nat) : (low k v).length = k := by
  induction k generalizing v with
  | zero => rfl
  | succ k ih => simp [low, ih]
theorem val_low (k v : Nat) : val (low k v) = v % 2 ^ k := by
  induction k generalizing v with
  | zero => simp [low, val, Nat.mod_one]
  | succ k ih =>
    simp only [low, val, ih]
    have h1 : (v % 2 == 1).toNat = v % 2 := by
      rcases Nat.mod_two_eq_zero_or_one v with h | h <;> simp [h]
    have h2 : v % 2 ^ (k + 1) = v % 2 + 2 * (v / 2 % 2 ^ k) := by
      rw [Nat.pow_succ, Nat.mul_comm, Nat.mod_mul]
    omega
theorem low_val (l : List Bool) : low l.length (val l) = l := by
  induction l with
  | nil => rfl
  | cons b l ih =>
    simp only [List.length_cons, low, val]
    have h1 : (b.toNat + 2 * val l) / 2 = val l := by have := Bool.toNat_le b; omega
    have h2 : ((b.toNat + 2 * val l) % 2 == 1) = b := by
      have h : (b.toNat + 2 * val l) % 2 = b.toNat := by have := Bool.toNat_le b; omega
      rw [h]; cases b <;> rfl
    rw [h1, ih, h2]
theorem val_take (l : List Bool) (k : Nat) (h : k ≤ l.length) : val (l.take k) = val l % 2 ^ k := by
  have h1 := val_append (l.take k) (l.drop k)
  rw [List.take_append_drop] at h1
  have h2 := val_lt (l.take k)
  rw [List.length_take, Nat.min_eq_left h] at h1 h2
  rw [h1, Nat.add_mul_mod_self_left, Nat.mod_eq_of_lt h2]
theorem val_drop (l : List Bool) (k : Nat) (h : k ≤ l.length) : val (l.drop k) = val l / 2 ^ k := by
  have h1 := val_append (l.take k) (l.drop k)
  rw [List.take_append_drop] at h1
  have h2 := val_lt (l.take k)
  rw [List.length_take, Nat.min_eq_left h] at h1 h2
  rw [h1, Nat.add_mul_div_left _ _ (Nat.two_pow_pos k), Nat.div_eq_of_lt h2, Nat.zero_add]
theorem val_replicate_false (k : Nat) : val (List.replicate k false) = 0 := by
  induction k with
  | zero => rfl
  | succ k ih => simp [List.replicate_succ, val, ih]

/-- Byte number i of bits; the first m bytes; what is left behind them, as a number. -/
def chunk (L : List Bool) (i : Nat) : Nat := val ((L.drop (8 * i)).take 8)
def outs (L : List Bool) (m : Nat) : List Nat := (List.range m).map (chunk L)
def rest (L : List Bool) (m : Nat) : Nat := val (L.drop (8 * m))
def pack (L : List Bool) : List Nat := outs L ((L.length + 7) / 8)

theorem chunk_lt (L : List Bool) (i : Nat) : chunk L i < 256 := by
  have h := val_lt ((L.drop (8 * i)).take 8)
  have h2 : ((L.drop (8 * i)).take 8).length ≤ 8 := by simp; omega
  exact Nat.lt_of_lt_of_le h (Nat.pow_le_pow_right (by omega) h2)
theorem length_outs (L : List Bool) (m : Nat) : (outs L m).length = m := by simp [outs]
theorem outs_succ (L : List Bool) (m : Nat) : outs L (m + 1) = outs L m ++ [chunk L m] := by simp [outs, List.range_succ]
theorem outs_lt (L : List Bool) (m : Nat) : ∀ x ∈ outs L m, x < 256 := by
  intro x hx
  simp only [outs, List.mem_map] at hx
  obtain ⟨i, _, rfl⟩ := hx
  exact chunk_lt L i
theorem chunk_append (L R : List Bool) (i : Nat) (h : 8 * (i + 1) ≤ L.length) : chunk (L ++ R) i = chunk L i := by
  unfold chunk
  rw [List.drop_append_of_le_length (by omega), List.take_append_of_le_length (by simp; omega)]
theorem outs_append (L R : List Bool) (m : Nat) (h : 8 * m ≤ L.length) : outs (L ++ R) m = outs L m := by
  unfold outs
  apply List.map_congr_left
  intro i hi
  rw [List.mem_range] at hi
  exact chunk_append L R i (by omega)
theorem rest_append (L R : List Bool) (m : Nat) (h : 8 * m ≤ L.length) : rest (L ++ R) m = rest L m + 2 ^ (L.length - 8 * m) * val R := by
  unfold rest
  rw [List.drop_append_of_le_length h, val_append, List.length_drop]
theorem rest_lt (L : List Bool) (m : Nat) : rest L m < 2 ^ (L.length - 8 * m) := by
  have h := val_lt (L.drop (8 * m))
  rwa [List.length_drop] at h
theorem chunk_rest (L : List Bool) (m : Nat) (h : 8 * (m + 1) ≤ L.length) : chunk L m = rest L m % 256 := by
  unfold chunk rest
  rw [val_take _ _ (by simp; omega)]
theorem rest_succ (L : List Bool) (m : Nat) (h : 8 * (m + 1) ≤ L.length) : rest L (m + 1) = rest L m / 256 := by
  unfold rest
  rw [show 8 * (m + 1) = 8 * m + 8 by omega, ← List.drop_drop, val_drop _ _ (by simp; omega)]
theorem chunk_last (L : List Bool) (m : Nat) (h : L.length ≤ 8 * (m + 1)) : chunk L m = rest L m := by
  unfold chunk rest
  rw [List.take_of_length_le (by simp; omega)]
theorem rest_nil (L : List Bool) (m : Nat) (h : L.length ≤ 8 * m) : rest L m = 0 := by
  unfold rest
  rw [List.drop_eq_nil_of_le h]; rfl

/-- The step of Bits: the number of the bits behind the whole bytes. -/
theorem or_step (p X K n : Nat) (hp : p < 2 ^ n) : p ||| (X &&& (2 ^ K - 1)) * 2 ^ n = p + 2 ^ n * (X % 2 ^ K) := by
  rw [Nat.and_two_pow_sub_one_eq_mod, Nat.or_comm, nat_join' _ _ _ hp]
where
  nat_join' (y p n : Nat) (hp : p < 2 ^ n) : y * 2 ^ n ||| p = p + 2 ^ n * y := by
    rw [nat_join n (y * 2 ^ n) p (Nat.mul_mod_left _ _) hp, Nat.mul_comm, Nat.add_comm]

/-- Up to a byte's end. -/
def alignL (L : List Bool) : List Bool := L ++ List.replicate ((8 - L.length % 8) % 8) false
theorem length_alignL (L : List Bool) : (alignL L).length = 8 * ((L.length + 7) / 8) := by
  simp only [alignL, List.length_append, List.length_replicate]; omega
theorem low_zero (k : Nat) : low k 0 = List.replicate k false := by
  induction k with
  | zero => rfl
  | succ k ih => simp [low, ih, List.replicate_succ]
theorem alignL_of (L : List Bool) (h : L.length % 8 = 0) : alignL L = L := by
  unfold alignL; rw [h]; simp

/-- The bits of bytes. -/
def textBits (s : List Nat) : List Bool := s.flatMap (low 8)
theorem length_textBits (s : List Nat) : (textBits s).length = 8 * s.length := by
  induction s with
  | nil => rfl
  | cons x s ih => simp only [textBits, List.flatMap_cons, List.length_append, length_low, List.length_cons] at *; omega
theorem textBits_snoc (s : List Nat) (x : Nat) : textBits (s ++ [x]) = textBits s ++ low 8 x := by simp [textBits]
theorem outs_text (L : List Bool) (m : Nat) (h : L.length = 8 * m) (s : List Nat) (hs : ∀ x ∈ s, x < 256) : outs (L ++ textBits s) (m + s.length) = outs L m ++ s := by
  induction s generalizing L m with
  | nil => simp [textBits]
  | cons x s ih =>
    have h1 : L ++ textBits (x :: s) = (L ++ low 8 x) ++ textBits s := by simp [textBits]
    rw [h1, List.length_cons, show m + (s.length + 1) = (m + 1) + s.length by omega,
      ih (L ++ low 8 x) (m + 1) (by simp [length_low]; omega) (fun y hy => hs y (by simp [hy])), outs_succ,
      outs_append _ _ _ (by omega)]
    have h2 : chunk (L ++ low 8 x) m = x := by
      unfold chunk
      rw [List.drop_append_of_le_length (by omega), List.drop_eq_nil_of_le (by omega), List.nil_append, List.take_of_length_le (by simp [length_low]), val_low]
      exact Nat.mod_eq_of_lt (by have := hs x (by simp); omega)
    rw [h2]; simp
theorem low_snoc (k v : Nat) : low (k + 1) v = low k v ++ [v / 2 ^ k % 2 == 1] := by
  induction k generalizing v with
  | zero => simp [low]
  | succ k ih =>
    rw [low, ih (v / 2)]
    simp only [low, List.cons_append, Nat.div_div_eq_div_mul, Nat.pow_succ]
    rw [Nat.mul_comm 2]
theorem toNat_bit (v : Nat) : (v % 2 == 1).toNat = v % 2 := by
  rcases Nat.mod_two_eq_zero_or_one v with h | h <;> simp [h]
theorem textBits_take (s : List Nat) (i : Nat) (h : i < s.length) : textBits (s.take (i + 1)) = textBits (s.take i) ++ low 8 s[i] := by
  rw [List.take_succ_eq_append_getElem h, textBits_snoc]
theorem val_take_step (L : List Bool) (i n : Nat) (h : i < L.length) : val ((L.drop i).take (n + 1)) = (L[i]).toNat + 2 * val ((L.drop (i + 1)).take n) := by
  rw [List.drop_eq_getElem_cons h, List.take_succ_cons, val]
theorem val_take_out (L : List Bool) (i n : Nat) (h : L.length ≤ i) : val ((L.drop i).take n) = 0 := by
  rw [List.drop_eq_nil_of_le h]; simp [val]
theorem val_take_lt (L : List Bool) (i n : Nat) : val ((L.drop i).take n) < 2 ^ n := by
  have h := val_lt ((L.drop i).take n)
  have h2 : ((L.drop i).take n).length ≤ n := by simp; omega
  exact Nat.lt_of_lt_of_le h (Nat.pow_le_pow_right (by omega) h2)
end Go.Proofs.Ytdehkaknbmbieaa
