/- Package name: plain: which bytes may begin a letter (UTF-8), and which texts are letters. -/
import Derived.Test.YtdehkaknbmbieaaGA
import Derived.Shelf.Abstract
import Derived.Shelf.RegionOpen
import Derived.WalkKit
import Derived.OwnWalkIn
import Derived.TacticsInMore
import Derived.LoopNIn
import Derived.LoopIn
import Derived.Sort.LoopGhostIn
import Derived.Lib.Bytealg
import Derived.Handy
import Derived.Outline
import Derived.Deep.QuietTactic
import Derived.BigQuiet
import Derived.Test.YtdehkaknbmbieaaProg
import Derived.Lib.Hide
import Derived.LoopTactic
namespace Go.Proofs.Ytdehkaknbmbieaa
set_option linter.unusedVariables false
set_option linter.unusedSimpArgs false
set_option linter.unusedSectionVars false

/-- How many bytes a letter has that begins so, and between which the second one is; 0: there is none. -/
def letterP (c : Nat) : Nat × Nat × Nat :=
  if c < 128 then (1, 0, 0) else if 194 ≤ c ∧ c ≤ 223 then (2, 128, 191) else if c = 224 then (3, 160, 191) else if c = 237 then (3, 128, 159)
  else if 225 ≤ c ∧ c ≤ 239 then (3, 128, 191) else if c = 240 then (4, 144, 191) else if 241 ≤ c ∧ c ≤ 243 then (4, 128, 191) else if c = 244 then (4, 128, 143) else (0, 0, 0)
/-- Are the bytes behind the first one such as its letter wants? -/
def tailOk (lo hi : Nat) : Nat → List Nat → Bool
  | 0, _ => true
  | _ + 1, [] => false
  | n + 1, b :: r => decide (lo ≤ b) && decide (b ≤ hi) && tailOk 128 191 n r
/-- Is a text letters? -/
def utfF : Nat → List Nat → Bool
  | 0, l => l.isEmpty
  | _ + 1, [] => true
  | f + 1, c :: r => decide ((letterP c).1 ≠ 0) && tailOk (letterP c).2.1 (letterP c).2.2 ((letterP c).1 - 1) r && utfF f (r.drop ((letterP c).1 - 1))
def utfP (l : List Nat) : Bool := utfF l.length l
theorem letterP_le (c : Nat) : (letterP c).1 ≤ 4 := by
  unfold letterP; repeat' split
  all_goals (dsimp only; omega)
theorem tailOk_len (lo hi : Nat) : ∀ (n : Nat) (l : List Nat), tailOk lo hi n l = true → n ≤ l.length
  | 0, _, _ => Nat.zero_le _
  | _ + 1, [], h => by simp [tailOk] at h
  | n + 1, b :: r, h => by
    simp only [tailOk, Bool.and_eq_true] at h
    have := tailOk_len 128 191 n r h.2
    rw [List.length_cons]; omega
/-- More fuel than bytes changes nothing. -/
theorem utfF_more : ∀ (f : Nat) (l : List Nat), l.length ≤ f → utfF f l = utfF l.length l
  | 0, l, h => by
    have : l = [] := List.eq_nil_of_length_eq_zero (by omega)
    subst this; rfl
  | f + 1, [], _ => rfl
  | f + 1, c :: r, h => by
    have hr : r.length ≤ f := by rw [List.length_cons] at h; omega
    have hd : (r.drop ((letterP c).1 - 1)).length ≤ r.length := by rw [List.length_drop]; omega
    show (decide ((letterP c).1 ≠ 0) && tailOk (letterP c).2.1 (letterP c).2.2 ((letterP c).1 - 1) r && utfF f (r.drop ((letterP c).1 - 1))) = (decide ((letterP c).1 ≠ 0) && tailOk (letterP c).2.1 (letterP c).2.2 ((letterP c).1 - 1) r && utfF r.length (r.drop ((letterP c).1 - 1)))
    rw [utfF_more f _ (by omega), utfF_more r.length _ hd]
  termination_by f _ _ => f
  decreasing_by all_goals (simp_wf; try (rw [List.length_cons] at *); omega)
theorem utfP_cons (c : Nat) (r : List Nat) : utfP (c :: r) = (decide ((letterP c).1 ≠ 0) && tailOk (letterP c).2.1 (letterP c).2.2 ((letterP c).1 - 1) r && utfP (r.drop ((letterP c).1 - 1))) := by
  show (decide ((letterP c).1 ≠ 0) && tailOk (letterP c).2.1 (letterP c).2.2 ((letterP c).1 - 1) r && utfF r.length (r.drop ((letterP c).1 - 1))) = _
  rw [utfF_more r.length _ (by rw [List.length_drop]; omega)]
  rfl
/-- A part of a path: its bytes, and its length. -/
def partOk (l : List Nat) : Bool := l.all (fun c => !(decide (c < 32) || decide (c = 127) || decide (c = 47) || decide (c = 92) || decide (c = 58))) && decide (1 ≤ l.length) && decide (l.length ≤ 60) && decide (l ≠ [46]) && decide (l ≠ [46, 46]) && utfP l
end Go.Proofs.Ytdehkaknbmbieaa
namespace Go.Proofs.Ytdehkaknbmbieaa
set_option linter.unusedVariables false
set_option linter.unusedSimpArgs false
set_option linter.unusedSectionVars false

/-- What stands between slashes. -/
def splitP : List Nat → List (List Nat)
  | [] => [[]]
  | c :: r => if c = 47 then [] :: splitP r else (c :: (splitP r).headD []) :: (splitP r).tail
theorem splitP_ne (l : List Nat) : splitP l ≠ [] := by
  cases l with
  | nil => simp [splitP]
  | cons c r => unfold splitP; split <;> simp
theorem splitP_ht (l : List Nat) : splitP l = (splitP l).headD [] :: (splitP l).tail := by
  cases h : splitP l with
  | nil => exact absurd h (splitP_ne l)
  | cons a b => rfl
theorem splitP_none : ∀ (l : List Nat), 47 ∉ l → splitP l = [l]
  | [], _ => rfl
  | c :: r, h => by
    simp only [List.mem_cons, not_or] at h
    unfold splitP
    rw [if_neg (fun e => h.1 e.symm), splitP_none r h.2]
    rfl
theorem splitP_app : ∀ (a r : List Nat), 47 ∉ a → splitP (a ++ 47 :: r) = a :: splitP r
  | [], r, _ => by simp [splitP]
  | c :: a, r, h => by
    simp only [List.mem_cons, not_or] at h
    have e : splitP (c :: (a ++ 47 :: r)) = (c :: (splitP (a ++ 47 :: r)).headD []) :: (splitP (a ++ 47 :: r)).tail := by rw [splitP, if_neg (fun e => h.1 e.symm)]
    show splitP (c :: (a ++ 47 :: r)) = _
    rw [e, splitP_app a r h.2]
    rfl
/-- The front that has been read, laid ahead of the parts of what is left. -/
def joinP (s : List Nat) (L : List (List Nat)) : List (List Nat) := (s ++ L.headD []) :: L.tail
theorem joinP_nil (l : List Nat) : joinP [] (splitP l) = splitP l := (splitP_ht l).symm
theorem joinP_slash (s r : List Nat) : joinP s (splitP (47 :: r)) = s :: joinP [] (splitP r) := by
  rw [joinP_nil]; simp [joinP, splitP]
theorem joinP_step (s r : List Nat) (c : Nat) (h : c ≠ 47) : joinP s (splitP (c :: r)) = joinP (s ++ [c]) (splitP r) := by
  have e : splitP (c :: r) = (c :: (splitP r).headD []) :: (splitP r).tail := by rw [splitP, if_neg h]
  rw [e]; simp [joinP]
theorem splitP_len : ∀ (l : List Nat), (splitP l).length ≤ l.length + 1
  | [] => by simp [splitP]
  | c :: r => by
    have ih := splitP_len r
    unfold splitP
    split
    · simp; omega
    · simp [List.length_tail]; omega
theorem splitP_mem : ∀ (l : List Nat) (p : List Nat), p ∈ splitP l → ∀ x ∈ p, x ∈ l
  | [], p, h, x, hx => by simp [splitP] at h; subst h; exact hx
  | c :: r, p, h, x, hx => by
    unfold splitP at h
    split at h
    · rcases List.mem_cons.1 h with rfl | h
      · simp at hx
      · exact List.mem_cons_of_mem _ (splitP_mem r p h x hx)
    · rcases List.mem_cons.1 h with rfl | h
      · rcases List.mem_cons.1 hx with rfl | hx
        · simp
        · refine List.mem_cons_of_mem _ (splitP_mem r ((splitP r).headD []) ?_ x hx)
          rw [splitP_ht r]; simp
      · exact List.mem_cons_of_mem _ (splitP_mem r p (List.mem_of_mem_tail h) x hx)
theorem splitP_plen : ∀ (l : List Nat) (p : List Nat), p ∈ splitP l → p.length ≤ l.length
  | [], p, h => by simp [splitP] at h; subst h; exact Nat.le_refl _
  | c :: r, p, h => by
    unfold splitP at h
    split at h
    · rcases List.mem_cons.1 h with rfl | h
      · exact Nat.zero_le _
      · have := splitP_plen r p h; simp; omega
    · rcases List.mem_cons.1 h with rfl | h
      · have := splitP_plen r ((splitP r).headD []) (by rw [splitP_ht r]; simp); simp at *; omega
      · have := splitP_plen r p (List.mem_of_mem_tail h); simp; omega
/-- ".swingle". -/
def resP : List Nat := [46, 115, 119, 105, 110, 103, 108, 101]
/-- Which paths may be. -/
def rightP (l : List Nat) : Bool := decide (l.length ≤ 200) && decide ((splitP l).headD [] ≠ resP) && decide ((splitP l).length ≤ 12) && (splitP l).all partOk
theorem rightP_long {l : List Nat} (h : 200 < l.length) : rightP l = false := by unfold rightP; rw [decide_eq_false (by omega)]; rfl
theorem rightP_res {l : List Nat} (h : (splitP l).headD [] = resP) : rightP l = false := by unfold rightP; rw [h]; simp
theorem rightP_many {l : List Nat} (h : 12 < (splitP l).length) : rightP l = false := by unfold rightP; rw [decide_eq_false (by omega : ¬ (splitP l).length ≤ 12)]; simp
theorem rightP_bad {l p : List Nat} (h : p ∈ splitP l) (hp : partOk p = false) : rightP l = false := by
  unfold rightP
  have : (splitP l).all partOk = false := by rw [List.all_eq_false]; exact ⟨p, h, by simp [hp]⟩
  rw [this]; simp
theorem rightP_yes {l : List Nat} (h1 : l.length ≤ 200) (h2 : (splitP l).headD [] ≠ resP) (h3 : (splitP l).length ≤ 12) (h4 : ∀ p ∈ splitP l, partOk p = true) : rightP l = true := by
  unfold rightP
  rw [decide_eq_true h1, decide_eq_true h2, decide_eq_true h3, List.all_eq_true.2 h4]; rfl
theorem rightP_len {l : List Nat} (h : rightP l = true) : l.length ≤ 200 := by
  unfold rightP at h; simp only [Bool.and_eq_true, decide_eq_true_eq] at h; exact h.1.1.1
theorem rightP_part {l : List Nat} (h : rightP l = true) : ∀ p ∈ splitP l, partOk p = true := by
  unfold rightP at h; simp only [Bool.and_eq_true] at h; exact List.all_eq_true.1 h.2
end Go.Proofs.Ytdehkaknbmbieaa
namespace Go.Proofs.Ytdehkaknbmbieaa
set_option linter.unusedVariables false
set_option linter.unusedSimpArgs false
set_option linter.unusedSectionVars false
open Go.RowKit Go.Shelf
attribute [local go_sem] Oper.semAt_some
set_option linter.unusedVariables false

/-- How many bytes stand ahead of the first slash. -/
def firstS (l : List Nat) : Nat := (l.takeWhile (fun c => decide (c ≠ 47))).length
theorem firstS_le (l : List Nat) : firstS l ≤ l.length := (List.takeWhile_prefix _).length_le
theorem firstS_cons (c : Nat) (r : List Nat) : firstS (c :: r) = if c = 47 then 0 else firstS r + 1 := by
  unfold firstS
  rw [List.takeWhile_cons]
  by_cases h : c = 47 <;> simp [h]
theorem splitP_first : ∀ (l : List Nat), firstS l < l.length → splitP l = l.take (firstS l) :: splitP (l.drop (firstS l + 1))
  | [], h => by simp at h
  | c :: r, h => by
    rw [firstS_cons] at h ⊢
    by_cases e : c = 47
    · subst e; simp [splitP]
    · rw [if_neg e] at h ⊢
      have ih := splitP_first r (by rw [List.length_cons] at h; omega)
      have e2 : splitP (c :: r) = (c :: (splitP r).headD []) :: (splitP r).tail := by rw [splitP, if_neg e]
      rw [e2, ih]
      simp
theorem splitP_last : ∀ (l : List Nat), ¬ firstS l < l.length → splitP l = [l]
  | [], _ => rfl
  | c :: r, h => by
    rw [firstS_cons] at h
    by_cases e : c = 47
    · rw [if_pos e] at h; simp at h
    · rw [if_neg e] at h
      have ih := splitP_last r (by rw [List.length_cons] at h; omega)
      have e2 : splitP (c :: r) = (c :: (splitP r).headD []) :: (splitP r).tail := by rw [splitP, if_neg e]
      rw [e2, ih]
      simp
theorem splitP_headT (l : List Nat) : (splitP l).headD [] = l.take (firstS l) := by
  by_cases h : firstS l < l.length
  · rw [splitP_first l h]; rfl
  · rw [splitP_last l h, List.headD_cons, List.take_of_length_le (by omega)]
theorem indexByte_slash (L : List UInt8) : Lib.indexByte L 47 = if firstS (L.map UInt8.toNat) < L.length then (firstS (L.map UInt8.toNat) : Int) else -1 := by
  induction L with
  | nil => rfl
  | cons b l ih =>
    have hb : (b == 47) = decide (b.toNat = 47) := by
      rw [Bool.eq_iff_iff]; simp [← UInt8.toNat_inj]
    rw [List.map_cons, firstS_cons, Lib.indexByte, hb, ih]
    by_cases e : b.toNat = 47
    · simp [e]
    · rw [if_neg (by simp [e]), if_neg e]
      by_cases h : firstS (l.map UInt8.toNat) < l.length
      · have h1 : (((firstS (l.map UInt8.toNat) : Nat) : Int) == -1) = false := by rw [beq_eq_false_iff_ne]; omega
        rw [if_pos h, h1, if_pos (show firstS (l.map UInt8.toNat) + 1 < (b :: l).length by rw [List.length_cons]; omega)]; simp
      · rw [if_neg h, if_neg (show ¬ firstS (l.map UInt8.toNat) + 1 < (b :: l).length by rw [List.length_cons]; omega)]; rfl
def slashB : ByteArray := { data := #[47] }
theorem bytesOf_extract (s : ByteArray) (a b : Nat) : bytesOf (s.extract a b) = ((bytesOf s).drop a).take (b - a) := by
  simp [bytesOf, ByteArray.data_extract, List.map_take, List.map_drop]
theorem strOf_take (s : ByteArray) (n : Nat) : s.extract 0 n = strOf ((bytesOf s).take n) := by
  rw [← strOf_bytesOf (s.extract 0 n), bytesOf_extract]; simp
theorem strOf_drop (s : ByteArray) (n : Nat) : s.extract n s.size = strOf ((bytesOf s).drop n) := by
  rw [← strOf_bytesOf (s.extract n s.size), bytesOf_extract, List.take_of_length_le (by rw [List.length_drop, length_bytesOf]; omega)]
end Go.Proofs.Ytdehkaknbmbieaa
namespace Go.Proofs.Ytdehkaknbmbieaa
set_option linter.unusedVariables false
set_option linter.unusedSimpArgs false
set_option linter.unusedSectionVars false
open Go.RowKit

def letV (p : Nat × Nat × Nat) : Value := .tuple #[.int .i64 (p.1 : Nat), .int .u8 (p.2.1 : Nat), .int .u8 (p.2.2 : Nat)]
end Go.Proofs.Ytdehkaknbmbieaa
namespace Go.Proofs.Ytdehkaknbmbieaa
set_option linter.unusedVariables false
set_option linter.unusedSimpArgs false
set_option linter.unusedSectionVars false
open Go.RowKit
set_option linter.unusedVariables false

theorem tailOk_iff : ∀ (m : Nat) (lo hi : Nat) (l : List Nat), tailOk lo hi m l = true ↔ m ≤ l.length ∧ ∀ i x, i < m → l[i]? = some x → (if i = 0 then lo else 128) ≤ x ∧ x ≤ (if i = 0 then hi else 191)
  | 0, lo, hi, l => by simp [tailOk]
  | m + 1, lo, hi, [] => by simp [tailOk]
  | m + 1, lo, hi, b :: r => by
    simp only [tailOk, Bool.and_eq_true, decide_eq_true_eq, tailOk_iff m 128 191 r, List.length_cons]
    constructor
    · rintro ⟨⟨h1, h2⟩, h3, h4⟩
      refine ⟨by omega, fun i x hi hx => ?_⟩
      cases i with
      | zero => simp at hx; subst hx; exact ⟨h1, h2⟩
      | succ i =>
        have := h4 i x (by omega) (by simpa using hx)
        rw [if_neg (by omega), if_neg (by omega)]
        split at this <;> exact this
    · rintro ⟨h1, h2⟩
      refine ⟨by simpa using h2 0 b (by omega) (by simp), by omega, fun i x hi hx => ?_⟩
      have := h2 (i + 1) x (by omega) (by simpa using hx)
      rw [if_neg (by omega), if_neg (by omega)] at this
      split <;> exact this
section
variable {L : List Nat} {c n lo hi : Nat}
theorem utf_split (h0 : L[0]? = some c) (hp : letterP c = (n, lo, hi)) : utfP L = (decide (n ≠ 0) && tailOk lo hi (n - 1) L.tail && utfP (L.drop n)) ∨ n = 0 := by
  cases L with
  | nil => simp at h0
  | cons b r =>
    simp at h0; subst h0
    by_cases e : n = 0
    · exact .inr e
    · left
      rw [utfP_cons, hp]
      obtain ⟨m, rfl⟩ : ∃ m, n = m + 1 := ⟨n - 1, by omega⟩
      simp
theorem utf_zero (h0 : L[0]? = some c) (hp : letterP c = (0, lo, hi)) : utfP L = false := by
  cases L with
  | nil => simp at h0
  | cons b r =>
    simp at h0; subst h0
    rw [utfP_cons, hp]; simp
theorem utf_no (h0 : L[0]? = some c) (hp : letterP c = (n, lo, hi)) (h : tailOk lo hi (n - 1) L.tail = false) : utfP L = false := by
  rcases utf_split h0 hp with e | e
  · rw [e, h]; simp
  · subst e; exact utf_zero h0 hp
theorem utf_long (h0 : L[0]? = some c) (hp : letterP c = (n, lo, hi)) (h : L.length < n) : utfP L = false := by
  refine utf_no h0 hp ?_
  cases ht : tailOk lo hi (n - 1) L.tail with
  | false => rfl
  | true =>
    have := ((tailOk_iff _ _ _ _).1 ht).1
    have : 0 < L.length := by cases L with
      | nil => simp at h0
      | cons => simp
    simp at *; omega
theorem utf_bad (h0 : L[0]? = some c) (hp : letterP c = (n, lo, hi)) {i x : Nat} (hi1 : 1 ≤ i) (hin : i < n) (hx : L[i]? = some x) (h : ¬ ((if i = 1 then lo else 128) ≤ x ∧ x ≤ (if i = 1 then hi else 191))) : utfP L = false := by
  refine utf_no h0 hp ?_
  cases ht : tailOk lo hi (n - 1) L.tail with
  | false => rfl
  | true =>
    exfalso; apply h
    have := ((tailOk_iff _ _ _ _).1 ht).2 (i - 1) x (by omega) (by rw [List.getElem?_tail]; rw [show i - 1 + 1 = i by omega]; exact hx)
    by_cases e : i = 1
    · subst e; simpa using this
    · rw [if_neg (by omega), if_neg (by omega)] at this; rw [if_neg e, if_neg e]; exact this
theorem utf_yes (h0 : L[0]? = some c) (hp : letterP c = (n, lo, hi)) (hn : 1 ≤ n) (hl : n ≤ L.length) (h : ∀ i x, 1 ≤ i → i < n → L[i]? = some x → (if i = 1 then lo else 128) ≤ x ∧ x ≤ (if i = 1 then hi else 191)) : utfP L = utfP (L.drop n) := by
  rcases utf_split h0 hp with e | e
  · have ht : tailOk lo hi (n - 1) L.tail = true := by
      refine (tailOk_iff _ _ _ _).2 ⟨by simp; omega, fun i x hi hx => ?_⟩
      have := h (i + 1) x (by omega) (by omega) (by rw [List.getElem?_tail] at hx; exact hx)
      by_cases e : i = 0
      · subst e; simpa using this
      · rw [if_neg (by omega), if_neg (by omega)] at this; rw [if_neg e, if_neg e]; exact this
    rw [e, ht, decide_eq_true (by omega)]; simp
  · omega
end
theorem bytesOf_get? (s : ByteArray) (i : Nat) (h : i < s.size) : (bytesOf s)[i]? = some s[i].toNat := by
  rw [List.getElem?_eq_getElem (by rw [length_bytesOf]; exact h), bytesOf_get s i h]
theorem bytesOf_drop (s : ByteArray) (n : Nat) : bytesOf (s.extract n s.size) = (bytesOf s).drop n := by
  rw [bytesOf_extract, List.take_of_length_le (by rw [List.length_drop, length_bytesOf]; omega)]

theorem toList_nil (r : ByteArray) (h : r.size = 0) : r.toList = [] := by
  rw [ByteArray.toList_eq]; exact List.eq_nil_of_length_eq_zero (by rw [Array.length_toList]; exact h)
theorem toList_some (r : ByteArray) (h : 0 < r.size) : (!r.toList.isEmpty) = true := by
  rw [ByteArray.toList_eq]
  cases hh : r.data.toList with
  | nil =>
    exfalso
    have h1 : r.data.toList.length = r.size := by rw [Array.length_toList]; rfl
    rw [hh] at h1; simp at h1; omega
  | cons => rfl
end Go.Proofs.Ytdehkaknbmbieaa
namespace Go.Proofs.Ytdehkaknbmbieaa
set_option linter.unusedVariables false
set_option linter.unusedSimpArgs false
set_option linter.unusedSectionVars false
open Go.RowKit
set_option linter.unusedVariables false

/-- A byte that no part may have. -/
def badC (c : Nat) : Bool := decide (c < 32) || decide (c = 127) || decide (c = 47) || decide (c = 92) || decide (c = 58)
theorem partOk_bad {l : List Nat} {i c : Nat} (h : l[i]? = some c) (hb : badC c = true) : partOk l = false := by
  have hm : c ∈ l := List.mem_of_getElem? h
  have : l.all (fun c => !(decide (c < 32) || decide (c = 127) || decide (c = 47) || decide (c = 92) || decide (c = 58))) = false := by
    rw [List.all_eq_false]
    exact ⟨c, hm, by unfold badC at hb; simp only [hb]; simp⟩
  unfold partOk; rw [this]; rfl
theorem partOk_eq {l : List Nat} (h : ∀ (i c : Nat), l[i]? = some c → badC c = false) : partOk l = (decide (1 ≤ l.length) && decide (l.length ≤ 60) && decide (l ≠ [46]) && decide (l ≠ [46, 46]) && utfP l) := by
  have : l.all (fun c => !(decide (c < 32) || decide (c = 127) || decide (c = 47) || decide (c = 92) || decide (c = 58))) = true := by
    rw [List.all_eq_true]
    intro c hc
    obtain ⟨i, hi⟩ := List.getElem?_of_mem hc
    have := h i c hi
    unfold badC at this
    simp only [this]; rfl
  unfold partOk; rw [this]; simp
theorem toList_bytes (s : ByteArray) (l : List UInt8) : (s.toList == l) = decide (bytesOf s = l.map UInt8.toNat) := by
  rw [Bool.eq_iff_iff, beq_iff_eq, decide_eq_true_eq, ByteArray.toList_eq]
  constructor
  · intro h; unfold bytesOf; rw [h]
  · intro h
    unfold bytesOf at h
    have hi : Function.Injective UInt8.toNat := fun a b e => UInt8.toNat_inj.1 e
    exact (List.map_inj_right (fun a b e => hi e)).1 h
theorem ne_dot (s : ByteArray) : (s.toList == [46]) = decide (bytesOf s = [46]) := toList_bytes s [46]
theorem ne_dots (s : ByteArray) : (s.toList == [46, 46]) = decide (bytesOf s = [46, 46]) := toList_bytes s [46, 46]
end Go.Proofs.Ytdehkaknbmbieaa
namespace Go.Proofs.Ytdehkaknbmbieaa
set_option linter.unusedVariables false
set_option linter.unusedSimpArgs false
set_option linter.unusedSectionVars false
open Go.RowKit Go.Shelf
attribute [local go_sem] Oper.semAt_some
set_option linter.unusedVariables false

/-- The parts of a path, as strings. -/
def partsS (s : ByteArray) : List ByteArray := (splitP (bytesOf s)).map strOf
theorem partsS_first (s : ByteArray) (h : firstS (bytesOf s) < s.size) : partsS s = s.extract 0 (firstS (bytesOf s)) :: partsS (s.extract (firstS (bytesOf s) + 1) s.size) := by
  unfold partsS
  rw [splitP_first _ (by rw [length_bytesOf]; exact h), List.map_cons, ← strOf_take, bytesOf_extract, List.take_of_length_le (by rw [List.length_drop, length_bytesOf]; omega)]
theorem partsS_last (s : ByteArray) (h : ¬ firstS (bytesOf s) < s.size) : partsS s = [s] := by
  unfold partsS
  rw [splitP_last _ (by rw [length_bytesOf]; exact h), List.map_cons, strOf_bytesOf]; rfl
theorem partsS_len (s : ByteArray) : 0 < (partsS s).length := by
  unfold partsS; rw [List.length_map]; exact List.length_pos_iff.2 (splitP_ne _)
/-- A string, as strings go. -/
abbrev Shs := { x : ByteArray // x.size ≤ 9223372036854775807 }
end Go.Proofs.Ytdehkaknbmbieaa
namespace Go.Proofs.Ytdehkaknbmbieaa
set_option linter.unusedVariables false
set_option linter.unusedSimpArgs false
set_option linter.unusedSectionVars false
open Go.RowKit Go.Shelf
attribute [local go_sem] Oper.semAt_some
set_option linter.unusedVariables false

theorem wp_act {P : Program} {c : Code} {Q : Exit → Act → World → Prop} {a : Act} {w : World} (h : ∀ fr, fr = a → c.wp P Q fr w) : c.wp P Q a w := h a rfl
theorem inBlock_two {id : Nat} {R : Exit → Act → World → Prop} {e : Exit} {a : Act} {W : World} (he : e = .normal ∨ e = .exit id) (h : Exit.inBlock id R .normal a W) : Exit.inBlock id R e a W := by
  rcases he with rfl | rfl
  · exact h
  · simpa [Exit.inBlock] using h
theorem Upd.putObj' {fp : List Nat} {a w : World} (h : Upd fp a w) {D : Nat} (hD : a.heap.size ≤ D) (o : Obj) : Upd fp a (w.putObj D o) := h.grown (grownBy_putObj' w D o) (fun k e => by cases e; exact .inr hD)
theorem eq_res (l : List Nat) (hl : ∀ x ∈ l, x < 256) : ((strOf l).toList == [46, 115, 119, 105, 110, 103, 108, 101]) = decide (l = resP) := by
  rw [toList_bytes, bytesOf_strOf l hl]; rfl
theorem splitP_lt (s : ByteArray) : ∀ p ∈ splitP (bytesOf s), ∀ x ∈ p, x < 256 := fun p hp x hx => bytesOf_lt s x (splitP_mem _ p hp x hx)
theorem partsS_mem (s x : ByteArray) (h : x ∈ partsS s) : bytesOf x ∈ splitP (bytesOf s) := by
  unfold partsS at h
  obtain ⟨p, hp, rfl⟩ := List.mem_map.1 h
  rw [bytesOf_strOf p (splitP_lt s p hp)]; exact hp
theorem partsS_size (s x : ByteArray) (h : x ∈ partsS s) : x.size ≤ s.size := by
  have := splitP_plen _ _ (partsS_mem s x h)
  rw [length_bytesOf, length_bytesOf] at this; exact this
/-- Of the parts so far: each may be, and they are not too many. -/
def AllP (pre : List Shs) : Prop := pre.length ≤ 12 ∧ ∀ x ∈ pre, partOk (bytesOf x.1) = true
/-- .. or one may not be, or they are too many. -/
def NotP (pre : List Shs) : Prop := 12 < pre.length ∨ ∃ x ∈ pre, partOk (bytesOf x.1) = false
theorem allP_done (s : ByteArray) (h1 : s.size ≤ 200) (h2 : (splitP (bytesOf s)).headD [] ≠ resP) (pre : List Shs) (hp : pre.map Subtype.val = partsS s) (h : AllP pre) : rightP (bytesOf s) = true := by
  obtain ⟨h3, h4⟩ := h
  have hl : (splitP (bytesOf s)).length = pre.length := by
    have := congrArg List.length hp
    rw [List.length_map] at this; unfold partsS at this; rw [List.length_map] at this; omega
  refine rightP_yes (by rw [length_bytesOf]; exact h1) h2 (by omega) fun p hpm => ?_
  have hm : strOf p ∈ pre.map Subtype.val := by rw [hp]; unfold partsS; exact List.mem_map_of_mem hpm
  obtain ⟨x, hx, hxe⟩ := List.mem_map.1 hm
  have := h4 x hx
  rwa [hxe, bytesOf_strOf p (splitP_lt s p hpm)] at this
theorem allP_not (s : ByteArray) (pre : List Shs) (hp : pre.map Subtype.val <+: partsS s) (h : NotP pre) : rightP (bytesOf s) = false := by
  rcases h with h | ⟨x, hx, hb⟩
  · have h1 := hp.length_le
    unfold partsS at h1
    rw [List.length_map, List.length_map] at h1
    exact rightP_many (by omega)
  · exact rightP_bad (partsS_mem s x.1 (hp.subset (List.mem_map_of_mem hx))) hb
theorem results_cellB {fn : Func} {p : Tmp} (h : fn.results = #[.cell p 4]) (tmps : Array Value) (w : World) (g : Nat) (b : Bool) (hp : tmps.getD p undef = .pointer (some ⟨g, 0, none⟩)) (hB : Blk w g [.bool b] 4) :
    (results fn tmps).run Try.prog w = .ok (.bool b) w := by
  have hc := hB.cell 0 rfl
  have hp2 : tmps[p]?.getD undef = .pointer (some ⟨g, 0, none⟩) := by rw [← hp]; simp
  simp [results, h, go_sem, hp2, hc]
/-- Between two rounds. -/
def NrI (s : ByteArray) (w0 : World) (bn br : Nat) (pre : List Shs) (W : World) : Prop := Blk W bn [.int .i64 (pre.length : Nat)] 3 ∧ Blk W br [.bool false] 4 ∧ Upd [] w0 W
theorem NrI.own {s : ByteArray} {w0 : World} {bn br B : Nat} (hB : w0.heap.size ≤ B) : OwnFrom B (NrI s w0 bn br) := fun p A C row hs hg hr => by
  obtain ⟨h1, h2, h3⟩ := hs
  exact ⟨blk_ownF B bn (fun (_ : Unit) => _) _ () A C row h1 hg hr, blk_ownF B br (fun (_ : Unit) => _) _ () A C row h2 hg hr, upd_ownF B [] w0 hB () A C row h3 hg hr⟩
theorem NrI.w2 {s : ByteArray} {w0 : World} {bn br bs : Nat} (h1 : bn ≠ bs) (h2 : br ≠ bs) (h3 : w0.heap.size ≤ bs) : ∀ p A C, NrI s w0 bn br p A → Own2 [bs] A C → NrI s w0 bn br p C := fun p A C hs hAC => by
  obtain ⟨k1, k2, k3⟩ := hs
  exact ⟨k1.upd hAC.1 (by simpa using h1), k2.upd hAC.1 (by simpa using h2), k3.trans hAC.1 (fun k hk => by simp at hk; subst hk; exact .inr h3)⟩
end Go.Proofs.Ytdehkaknbmbieaa
