/- Package field: plain: numbers as bytes, a reader. -/
import Derived.Test.YtdehkaknbmbieaaGA
import Derived.Deep.OwnRows
namespace Go.Proofs.Ytdehkaknbmbieaa
set_option linter.unusedVariables false
set_option linter.unusedSimpArgs false
set_option linter.unusedSectionVars false
open Go.RowKit

/-- A number's bytes, the least first. -/
def leP : Nat → Nat → List Nat
  | _, 0 => []
  | n, k + 1 => n % 256 :: leP (n / 256) k
def leG : List Nat → Nat
  | [] => 0
  | x :: t => x + 256 * leG t
theorem leP_len : ∀ (k n : Nat), (leP n k).length = k
  | 0, _ => rfl
  | k + 1, n => by rw [leP, List.length_cons, leP_len k]
theorem leP_lt : ∀ (k n : Nat), ∀ x ∈ leP n k, x < 256
  | 0, _ => by intro x hx; simp [leP] at hx
  | k + 1, n => by
    intro x hx
    rw [leP] at hx
    rcases List.mem_cons.1 hx with h | h
    · omega
    · exact leP_lt k _ x h
theorem leP_snoc : ∀ (k n : Nat), leP n (k + 1) = leP n k ++ [n / 256 ^ k % 256]
  | 0, n => by simp [leP]
  | k + 1, n => by
    rw [leP, leP_snoc k (n / 256), leP, List.cons_append, Nat.div_div_eq_div_mul, Nat.pow_succ, Nat.mul_comm 256]
theorem leP_take : ∀ (k i n : Nat), i ≤ k → (leP n k).take i = leP n i
  | k, 0, n, _ => by simp [leP]
  | 0, i + 1, n, h => by omega
  | k + 1, i + 1, n, h => by rw [leP, List.take_succ_cons, leP_take k i _ (by omega), leP]
theorem leP_get (k n i : Nat) (h : i < k) : (leP n k)[i]? = some (n / 256 ^ i % 256) := by
  have h1 := leP_take k (i + 1) n h
  rw [leP_snoc] at h1
  have h2 : ((leP n k).take (i + 1))[i]? = (leP n k)[i]? := by rw [List.getElem?_take_of_lt (by omega)]
  rw [← h2, h1, List.getElem?_append_right (by rw [leP_len]; omega), leP_len]
  simp
theorem leP_add : ∀ (a b n : Nat), leP n (a + b) = leP n a ++ leP (n / 256 ^ a) b
  | 0, b, n => by simp [leP]
  | a + 1, b, n => by
    rw [show a + 1 + b = a + b + 1 by omega, leP, leP_add a b, leP, List.cons_append, Nat.div_div_eq_div_mul, Nat.pow_succ, Nat.mul_comm 256]
theorem leP_mod : ∀ (k n : Nat), leP (n % 256 ^ k) k = leP n k
  | 0, _ => rfl
  | k + 1, n => by
    rw [leP, leP, Nat.pow_succ, Nat.mul_comm, Nat.mod_mul_right_mod, Nat.mod_mul_right_div_self, leP_mod k]
theorem leG_append : ∀ (a b : List Nat), leG (a ++ b) = leG a + 256 ^ a.length * leG b
  | [], b => by simp [leG]
  | x :: t, b => by
    rw [List.cons_append, leG, leG_append t b, leG, List.length_cons, Nat.pow_succ, Nat.mul_comm (256 ^ t.length) 256, Nat.mul_add, Nat.mul_assoc]; omega
theorem leG_snoc (a : List Nat) (x : Nat) : leG (a ++ [x]) = leG a + 256 ^ a.length * x := by rw [leG_append]; simp [leG]
theorem leG_lt : ∀ (l : List Nat), (∀ x ∈ l, x < 256) → leG l < 256 ^ l.length
  | [], _ => by simp [leG]
  | x :: t, h => by
    have h1 := h x (by simp)
    have h2 := leG_lt t fun y hy => h y (by simp [hy])
    rw [leG, List.length_cons, Nat.pow_succ]; omega
theorem leG_leP : ∀ (k n : Nat), leG (leP n k) = n % 256 ^ k
  | 0, n => by simp [leP, leG, Nat.mod_one]
  | k + 1, n => by
    rw [leP, leG, leG_leP k, Nat.pow_succ, Nat.mul_comm (256 ^ k) 256, Nat.mod_mul]
theorem leP_leG : ∀ (l : List Nat), (∀ x ∈ l, x < 256) → leP (leG l) l.length = l
  | [], _ => rfl
  | x :: t, h => by
    have h1 := h x (by simp)
    have h2 := leP_leG t fun y hy => h y (by simp [hy])
    rw [leG, List.length_cons, leP, show (x + 256 * leG t) % 256 = x by omega, show (x + 256 * leG t) / 256 = leG t by omega, h2]

/-- A reader: its text, where it is, whether it went wrong. -/
structure RS where
  s : ByteArray
  p : Nat
  bad : Bool
def RS.cells (r : RS) : List Value := [.string r.s, .int .i64 (r.p : Nat), .bool r.bad]
def RS.l (r : RS) : List Nat := bytesOf r.s
def RS.text (r : RS) (n : Nat) : List Nat × RS :=
  if r.bad = true then ([], r) else if r.s.size - r.p < n then ([], ⟨r.s, r.p, true⟩) else ((r.l.drop r.p).take n, ⟨r.s, r.p + n, false⟩)
def RS.num (r : RS) (k : Nat) : Nat × RS := (leG (r.text k).1, (r.text k).2)
/-- A reader that may be: it is within its text. -/
def RS.Ok (r : RS) : Prop := r.p ≤ r.s.size
theorem RS.text_ok {r : RS} (h : r.Ok) (n : Nat) : (r.text n).2.Ok := by
  unfold RS.text RS.Ok at *
  repeat' split
  all_goals (dsimp only; omega)
theorem RS.text_s (r : RS) (n : Nat) : (r.text n).2.s = r.s := by
  unfold RS.text
  repeat' split
  all_goals rfl
theorem RS.num_ok {r : RS} (h : r.Ok) (n : Nat) : (r.num n).2.Ok := RS.text_ok h n
theorem RS.num_s (r : RS) (n : Nat) : (r.num n).2.s = r.s := RS.text_s r n
theorem RS.text_lt (r : RS) (n : Nat) : ∀ x ∈ (r.text n).1, x < 256 := by
  unfold RS.text
  repeat' split
  all_goals first
    | (intro x hx; simp at hx; done)
    | exact fun x hx => bytesOf_lt r.s x (List.mem_of_mem_drop (List.mem_of_mem_take hx))
theorem RS.text_len (r : RS) (n : Nat) : (r.text n).1.length ≤ n := by
  unfold RS.text
  repeat' split
  all_goals (simp; try omega)
theorem RS.num_lt (r : RS) (k : Nat) : (r.num k).1 < 256 ^ k := by
  refine Nat.lt_of_lt_of_le (leG_lt _ (r.text_lt k)) (Nat.pow_le_pow_right (by omega) (r.text_len k))
theorem RS.text_bad {r : RS} (h : r.bad = true) (n : Nat) : r.text n = ([], r) := by unfold RS.text; rw [if_pos h]
theorem RS.text_short {s : ByteArray} {p : Nat} (n : Nat) (h : s.size - p < n) : (⟨s, p, false⟩ : RS).text n = ([], ⟨s, p, true⟩) := by
  unfold RS.text; rw [if_neg (by simp), if_pos h]
theorem RS.text_fine {s : ByteArray} {p : Nat} (n : Nat) (h : n ≤ s.size - p) : (⟨s, p, false⟩ : RS).text n = (((bytesOf s).drop p).take n, ⟨s, p + n, false⟩) := by
  unfold RS.text; rw [if_neg (by simp), if_neg (by dsimp only; omega)]; rfl
theorem RS.text_isbad {r : RS} (h : r.bad = true) (n : Nat) : (r.text n).2.bad = true := by rw [RS.text_bad h]; exact h
/-- What is read, once the reader is at its end, is as it should be or nothing. -/
theorem RS.text_all (r : RS) (n : Nat) (h : (r.text n).2.bad = false) : r.bad = false ∧ n ≤ r.s.size - r.p ∧ r.text n = ((r.l.drop r.p).take n, ⟨r.s, r.p + n, false⟩) := by
  unfold RS.text at h ⊢
  split at h
  · rename_i h1; dsimp only at h; rw [h1] at h; cases h
  · rename_i h1
    split at h
    · cases h
    · rename_i h2
      exact ⟨by simpa using h1, by omega, by rw [if_neg h1, if_neg h2]⟩
theorem RS.text_not (r : RS) (n : Nat) (h : r.s.size < r.p + n) (hp : r.p ≤ r.s.size) : (r.text n).2.bad = true := by
  cases hb : (r.text n).2.bad with
  | true => rfl
  | false => have := RS.text_all r n hb; omega
end Go.Proofs.Ytdehkaknbmbieaa
namespace Go.Proofs.Ytdehkaknbmbieaa
set_option linter.unusedVariables false
set_option linter.unusedSimpArgs false
set_option linter.unusedSectionVars false
open Go.RowKit
set_option linter.unusedVariables false

theorem infoByte : (Try.prog.info? 5).map (fun i => (i.zero, i.size, i.bytes)) = some (some (.int .u8 0), 1, 1) := by kernel_rfl
theorem Blk.conv {P : Program} {w : World} {b n c : Nat} {l : List Nat} {src dst e : TypeId} (h : Blk w b (u8s l) e) (hl : l.length = n) (hs : P.underlying src = some (.slice e)) (he : P.underlying e = some (.int .u8)) (hd : P.underlying dst = some .string) :
    (convert src dst (.slice (some ⟨b, 0, none⟩) n c)).run P w = .ok (.string (strOf l)) w := by
  have hr := run_convert_bytes_arg w src e hs he b 0 n c (l.map fun x : Nat => (x : Int)) (by simpa using hl) (fun i hi => by
    have hil : i < l.length := by omega
    rw [Nat.zero_add]
    refine h.cell i ?_
    simp [u8s, hil]) dst hd
  rw [hr]
  congr 2
  simp only [strOfNums, strOf, List.map_map]
  congr 2
theorem pow8 (i : Nat) : (2 : Nat) ^ (8 * i) = 256 ^ i := by rw [Nat.pow_mul]
theorem or_u64 (a b : Nat) (ha : a < 18446744073709551616) (hb : b < 18446744073709551616) : bits .or .u64 (a : Int) (b : Int) = ((a ||| b : Nat) : Int) := by
  show IntKind.u64.wrap ((BitVec.ofInt 64 (a : Int) ||| BitVec.ofInt 64 (b : Int)).toNat : Int) = _
  rw [BitVec.toNat_or, ofInt_nat 64 a ha, ofInt_nat 64 b hb]
  exact IntWalk.u64_in _ (by have := Nat.or_lt_two_pow (n := 64) ha hb; omega)
theorem or_put (m x i : Nat) (hm : m < 256 ^ i) (hx : x < 256) (hi : i ≤ 7) : bits BinOp.or IntKind.u64 (m : Int) (IntKind.u64.wrap (IntKind.u64.wrap (x : Int) * 2 ^ (8 * i))) = ((m + 256 ^ i * x : Nat) : Int) := by
  have hp : 256 ^ i ≤ 256 ^ 7 := Nat.pow_le_pow_right (by omega) hi
  have h1 : IntKind.u64.wrap (x : Int) = (x : Int) := IntWalk.u64_in _ (by omega)
  have hb : 256 ^ i * x ≤ 256 ^ 7 * 255 := Nat.mul_le_mul hp (by omega)
  have e2 : (x : Int) * 2 ^ (8 * i) = ((256 ^ i * x : Nat) : Int) := by rw [← pow8]; push_cast; exact Int.mul_comm _ _
  rw [h1, e2, IntWalk.u64_in _ (by omega), or_u64 _ _ (by omega) (by omega), ← pow8, Nat.or_comm, ← Nat.two_pow_add_eq_or_of_lt (by rw [pow8]; exact hm), Nat.add_comm]
theorem u8s_set2 (l : List Nat) (i x : Nat) : (u8s l).set i (.int .u8 (x : Nat)) = u8s (l.set i x) := by simp [u8s]
theorem putL_step (n k i : Nat) (h : i < k) : ((leP n i ++ List.replicate (k - i) 0).set i (n / 256 ^ i % 256)) = leP n (i + 1) ++ List.replicate (k - (i + 1)) 0 := by
  rw [show k - i = (k - (i + 1)) + 1 by omega, List.replicate_succ, List.set_append_right _ _ (by rw [leP_len]; omega), leP_len, Nat.sub_self, List.set_cons_zero, leP_snoc, List.append_assoc]; rfl
/-- What Get tells of so many bytes. -/
def getV (s : ByteArray) (k : Nat) : Value := if k ≤ s.size then .tuple #[.int .u64 (leG ((bytesOf s).take k) : Nat), .bool true] else .tuple #[.int .u64 0, .bool false]
end Go.Proofs.Ytdehkaknbmbieaa
