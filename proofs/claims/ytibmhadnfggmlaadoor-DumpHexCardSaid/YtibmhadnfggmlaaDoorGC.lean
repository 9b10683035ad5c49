/- Package name: plain: which bytes may begin a letter (UTF-8), and which texts are letters. -/
import Derived.Test.YtibmhadnfggmlaaDoorGA
import Derived.Shelf.Abstract
import Derived.Shelf.RegionOpen
import Derived.WalkKit
import Derived.OwnWalkIn
import Derived.TacticsInMore
import Derived.LoopNIn
import Derived.LoopIn
import Derived.Sort.LoopGhostIn
import Derived.Lib.Bytealg
import Derived.Handy
import Derived.Outline
import Derived.Deep.QuietTactic
import Derived.BigQuiet
import Derived.Test.YtibmhadnfggmlaaDoorProg
import Derived.Lib.Hide
import Derived.LoopTactic
namespace Go.Proofs.YtibmhadnfggmlaaDoor
set_option linter.unusedVariables false
set_option linter.unusedSimpArgs false
set_option linter.unusedSectionVars false

/-- How many bytes a letter has that begins so, and between which the second one is; 0: there is none. -/
def letterP (c : Nat) : Nat × Nat × Nat :=
  if c < 128 then (1, 0, 0) else if 194 ≤ c ∧ c ≤ 223 then (2, 128, 191) else if c = 224 then (3, 160, 191) else if c = 237 then (3, 128, 159)
  else if 225 ≤ c ∧ c ≤ 239 then (3, 128, 191) else if c = 240 then (4, 144, 191) else if 241 ≤ c ∧ c ≤ 243 then (4, 128, 191) else if c = 244 then (4, 128, 143) else (0, 0, 0)
/-- Are the bytes behind the first one such as its letter wants? -/
def tailOk (lo hi : Nat) : Nat → List Nat → Bool
  | 0, _ => true
  | _ + 1, [] => false
  | n + 1, b :: r => decide (lo ≤ b) && decide (b ≤ hi) && tailOk 128 191 n r
/-- Is a text letters? -/
def utfF : Nat → List Nat → Bool
  | 0, l => l.isEmpty
  | _ + 1, [] => true
  | f + 1, c :: r => decide ((letterP c).1 ≠ 0) && tailOk (letterP c).2.1 (letterP c).2.2 ((letterP c).1 - 1) r && utfF f (r.drop ((letterP c).1 - 1))
def utfP (l : List Nat) : Bool := utfF l.length l
theorem letterP_le (c : Nat) : (letterP c).1 ≤ 4 := by
  unfold letterP; repeat' split
  all_goals (dsimp only; omega)
theorem tailOk_len (lo hi : Nat) : ∀ (n : Nat) (l : List Nat), tailOk lo hi n l = true → n ≤ l.length
  | 0, _, _ => Nat.zero_le _
  | _ + 1, [], h => by simp [tailOk] at h
  | n + 1, b :: r, h => by
    simp only [tailOk, Bool.and_eq_true] at h
    have := tailOk_len 128 191 n r h.2
    rw [List.length_cons]; omega
/-- More fuel than bytes changes nothing. -/
theorem utfF_more : ∀ (f : Nat) (l : List Nat), l.length ≤ f → utfF f l = utfF l.length l
  | 0, l, h => by
    have : l = [] := List.eq_nil_of_length_eq_zero (by omega)
    subst this; rfl
  | f + 1, [], _ => rfl
  | f + 1, c :: r, h => by
    have hr : r.length ≤ f := by rw [List.length_cons] at h; omega
    have hd : (r.drop ((letterP c).1 - 1)).length ≤ r.length := by rw [List.length_drop]; omega
    show (decide ((letterP c).1 ≠ 0) && tailOk (letterP c).2.1 (letterP c).2.2 ((letterP c).1 - 1) r && utfF f (r.drop ((letterP c).1 - 1))) = (decide ((letterP c).1 ≠ 0) && tailOk (letterP c).2.1 (letterP c).2.2 ((letterP c).1 - 1) r && utfF r.length (r.drop ((letterP c).1 - 1)))
    rw [utfF_more f _ (by omega), utfF_more r.length _ hd]
  termination_by f _ _ => f
  decreasing_by all_goals (simp_wf; try (rw [List.length_cons] at *); omega)
theorem utfP_cons (c : Nat) (r : List Nat) : utfP (c :: r) = (decide ((letterP c).1 ≠ 0) && tailOk (letterP c).2.1 (letterP c).2.2 ((letterP c).1 - 1) r && utfP (r.drop ((letterP c).1 - 1))) := by
  show (decide ((letterP c).1 ≠ 0) && tailOk (letterP c).2.1 (letterP c).2.2 ((letterP c).1 - 1) r && utfF r.length (r.drop ((letterP c).1 - 1))) = _
  rw [utfF_more r.length _ (by rw [List.length_drop]; omega)]
  rfl
/-- A part of a path: its bytes, and its length. -/
def partOk (l : List Nat) : Bool := l.all (fun c => !(decide (c < 32) || decide (c = 127) || decide (c = 47) || decide (c = 92) || decide (c = 58))) && decide (1 ≤ l.length) && decide (l.length ≤ 60) && decide (l ≠ [46]) && decide (l ≠ [46, 46]) && utfP l
end Go.Proofs.YtibmhadnfggmlaaDoor
namespace Go.Proofs.YtibmhadnfggmlaaDoor
set_option linter.unusedVariables false
set_option linter.unusedSimpArgs false
set_option linter.unusedSectionVars false

/-- What stands between slashes. -/
def splitP : List Nat → List (List Nat)
  | [] => [[]]
  | c :: r => if c = 47 then [] :: splitP r else (c :: (splitP r).headD []) :: (splitP r).tail
theorem splitP_ne (l : List Nat) : splitP l ≠ [] := by
  cases l with
  | nil => simp [splitP]
  | cons c r => unfold splitP; split <;> simp
theorem splitP_ht (l : List Nat) : splitP l = (splitP l).headD [] :: (splitP l).tail := by
  cases h : splitP l with
  | nil => exact absurd h (splitP_ne l)
  | cons a b => rfl
theorem splitP_none : ∀ (l : List Nat), 47 ∉ l → splitP l = [l]
  | [], _ => rfl
  | c :: r, h => by
    simp only [List.mem_cons, not_or] at h
    unfold splitP
    rw [if_neg (fun e => h.1 e.symm), splitP_none r h.2]
    rfl
theorem splitP_app : ∀ (a r : List Nat), 47 ∉ a → splitP (a ++ 47 :: r) = a :: splitP r
  | [], r, _ => by simp [splitP]
  | c :: a, r, h => by
    simp only [List.mem_cons, not_or] at h
    have e : splitP (c :: (a ++ 47 :: r)) = (c :: (splitP (a ++ 47 :: r)).headD []) :: (splitP (a ++ 47 :: r)).tail := by rw [splitP, if_neg (fun e => h.1 e.symm)]
    show splitP (c :: (a ++ 47 :: r)) = _
    rw [e, splitP_app a r h.2]
    rfl
/-- The front that has been read, laid ahead of the parts of what is left. -/
def joinP (s : List Nat) (L : List (List Nat)) : List (List Nat) := (s ++ L.headD []) :: L.tail
theorem joinP_nil (l : List Nat) : joinP [] (splitP l) = splitP l := (splitP_ht l).symm
theorem joinP_slash (s r : List Nat) : joinP s (splitP (47 :: r)) = s :: joinP [] (splitP r) := by
  rw [joinP_nil]; simp [joinP, splitP]
theorem joinP_step (s r : List Nat) (c : Nat) (h : c ≠ 47) : joinP s (splitP (c :: r)) = joinP (s ++ [c]) (splitP r) := by
  have e : splitP (c :: r) = (c :: (splitP r).headD []) :: (splitP r).tail := by rw [splitP, if_neg h]
  rw [e]; simp [joinP]
theorem splitP_len : ∀ (l : List Nat), (splitP l).length ≤ l.length + 1
  | [] => by simp [splitP]
  | c :: r => by
    have ih := splitP_len r
    unfold splitP
    split
    · simp; omega
    · simp [List.length_tail]; omega
theorem splitP_mem : ∀ (l : List Nat) (p : List Nat), p ∈ splitP l → ∀ x ∈ p, x ∈ l
  | [], p, h, x, hx => by simp [splitP] at h; subst h; exact hx
  | c :: r, p, h, x, hx => by
    unfold splitP at h
    split at h
    · rcases List.mem_cons.1 h with rfl | h
      · simp at hx
      · exact List.mem_cons_of_mem _ (splitP_mem r p h x hx)
    · rcases List.mem_cons.1 h with rfl | h
      · rcases List.mem_cons.1 hx with rfl | hx
        · simp
        · refine List.mem_cons_of_mem _ (splitP_mem r ((splitP r).headD []) ?_ x hx)
          rw [splitP_ht r]; simp
      · exact List.mem_cons_of_mem _ (splitP_mem r p (List.mem_of_mem_tail h) x hx)
theorem splitP_plen : ∀ (l : List Nat) (p : List Nat), p ∈ splitP l → p.length ≤ l.length
  | [], p, h => by simp [splitP] at h; subst h; exact Nat.le_refl _
  | c :: r, p, h => by
    unfold splitP at h
    split at h
    · rcases List.mem_cons.1 h with rfl | h
      · exact Nat.zero_le _
      · have := splitP_plen r p h; simp; omega
    · rcases List.mem_cons.1 h with rfl | h
      · have := splitP_plen r ((splitP r).headD []) (by rw [splitP_ht r]; simp); simp at *; omega
      · have := splitP_plen r p (List.mem_of_mem_tail h); simp; omega
/-- ".swingle". -/
def resP : List Nat := [46, 115, 119, 105, 110, 103, 108, 101]
/-- Which paths may be. -/
def rightP (l : List Nat) : Bool := decide (l.length ≤ 200) && decide ((splitP l).headD [] ≠ resP) && decide ((splitP l).length ≤ 12) && (splitP l).all partOk
theorem rightP_long {l : List Nat} (h : 200 < l.length) : rightP l = false := by unfold rightP; rw [decide_eq_false (by omega)]; rfl
theorem rightP_res {l : List Nat} (h : (splitP l).headD [] = resP) : rightP l = false := by unfold rightP; rw [h]; simp
theorem rightP_many {l : List Nat} (h : 12 < (splitP l).length) : rightP l = false := by unfold rightP; rw [decide_eq_false (by omega : ¬ (splitP l).length ≤ 12)]; simp
theorem rightP_bad {l p : List Nat} (h : p ∈ splitP l) (hp : partOk p = false) : rightP l = false := by
  unfold rightP
  have : (splitP l).all partOk = false := by rw [List.all_eq_false]; exact ⟨p, h, by simp [hp]⟩
  rw [this]; simp
theorem rightP_yes {l : List Nat} (h1 : l.length ≤ 200) (h2 : (splitP l).headD [] ≠ resP) (h3 : (splitP l).length ≤ 12) (h4 : ∀ p ∈ splitP l, partOk p = true) : rightP l = true := by
  unfold rightP
  rw [decide_eq_true h1, decide_eq_true h2, decide_eq_true h3, List.all_eq_true.2 h4]; rfl
theorem rightP_len {l : List Nat} (h : rightP l = true) : l.length ≤ 200 := by
  unfold rightP at h; simp only [Bool.and_eq_true, decide_eq_true_eq] at h; exact h.1.1.1
theorem rightP_part {l : List Nat} (h : rightP l = true) : ∀ p ∈ splitP l, partOk p = true := by
  unfold rightP at h; simp only [Bool.and_eq_true] at h; exact List.all_eq_true.1 h.2
end Go.Proofs.YtibmhadnfggmlaaDoor
namespace Go.Proofs.YtibmhadnfggmlaaDoor
set_option linter.unusedVariables false
set_option linter.unusedSimpArgs false
set_option linter.unusedSectionVars false
open Go.RowKit Go.Shelf
attribute [local go_sem] Oper.semAt_some
set_option linter.unusedVariables false

/-- How many bytes stand ahead of the first slash. -/
def firstS (l : List Nat) : Nat := (l.takeWhile (fun c => decide (c ≠ 47))).length
theorem firstS_le (l : List Nat) : firstS l ≤ l.length := (List.takeWhile_prefix _).length_le
theorem firstS_cons (c : Nat) (r : List Nat) : firstS (c :: r) = if c = 47 then 0 else firstS r + 1 := by
  unfold firstS
  rw [List.takeWhile_cons]
  by_cases h : c = 47 <;> simp [h]
theorem splitP_first : ∀ (l : List Nat), firstS l < l.length → splitP l = l.take (firstS l) :: splitP (l.drop (firstS l + 1))
  | [], h => by simp at h
  | c :: r, h => by
    rw [firstS_cons] at h ⊢
    by_cases e : c = 47
    · subst e; simp [splitP]
    · rw [if_neg e] at h ⊢
      have ih := splitP_first r (by rw [List.length_cons] at h; omega)
      have e2 : splitP (c :: r) = (c :: (splitP r).headD []) :: (splitP r).tail := by rw [splitP, if_neg e]
      rw [e2, ih]
      simp
theorem splitP_last : ∀ (l : List Nat), ¬ firstS l < l.length → splitP l = [l]
  | [], _ => rfl
  | c :: r, h => by
    rw [firstS_cons] at h
    by_cases e : c = 47
    · rw [if_pos e] at h; simp at h
    · rw [if_neg e] at h
      have ih := splitP_last r (by rw [List.length_cons] at h; omega)
      have e2 : splitP (c :: r) = (c :: (splitP r).headD []) :: (splitP r).tail := by rw [splitP, if_neg e]
      rw [e2, ih]
      simp
theorem splitP_headT (l : List Nat) : (splitP l).headD [] = l.take (firstS l) := by
  by_cases h : firstS l < l.length
  · rw [splitP_first l h]; rfl
  · rw [splitP_last l h, List.headD_cons, List.take_of_length_le (by omega)]
theorem indexByte_slash (L : List UInt8) : Lib.indexByte L 47 = if firstS (L.map UInt8.toNat) < L.length then (firstS (L.map UInt8.toNat) : Int) else -1 := by
  induction L with
  | nil => rfl
  | cons b l ih =>
    have hb : (b == 47) = decide (b.toNat = 47) := by
      rw [Bool.eq_iff_iff]; simp [← UInt8.toNat_inj]
    rw [List.map_cons, firstS_cons, Lib.indexByte, hb, ih]
    by_cases e : b.toNat = 47
    · simp [e]
    · rw [if_neg (by simp [e]), if_neg e]
      by_cases h : firstS (l.map UInt8.toNat) < l.length
      · have h1 : (((firstS (l.map UInt8.toNat) : Nat) : Int) == -1) = false := by rw [beq_eq_false_iff_ne]; omega
        rw [if_pos h, h1, if_pos (show firstS (l.map UInt8.toNat) + 1 < (b :: l).length by rw [List.length_cons]; omega)]; simp
      · rw [if_neg h, if_neg (show ¬ firstS (l.map UInt8.toNat) + 1 < (b :: l).length by rw [List.length_cons]; omega)]; rfl
set_option maxRecDepth 100000 in
theorem sliteByte_slash (s : ByteArray) (w : World) : Calls Tryd.prog 136 #[.string s, .int .u8 47] w fun e w' => e = .returned (.int .i64 (Lib.indexByte s.data.toList 47)) ∧ w = w' := by
  go_enter Tryd.func136, Tryd.ntmps136
  go_wp2
  rw [run_callFunc_extern Tryd.func156 (by kernel_rfl) (by kernel_rfl) (by kernel_rfl) (e := Extern.BytealgIndexByte.indexByte) (by kernel_rfl), Lib.run_indexByteString]
  simp only [Result.andThen]
  rw [Oper.upon_value]
  go_wp2
  go_ret
  exact ⟨rfl, rfl⟩
def slashB : ByteArray := { data := #[47] }
set_option maxRecDepth 100000 in
theorem slite_slash (s : ByteArray) (w : World) : Calls Tryd.prog 155 #[.string s, .string { data := #[47] }] w fun e w' => e = .returned (.int .i64 (Lib.indexByte s.data.toList 47)) ∧ w = w' := by
  cases hq : ([47] == s.toList) with
  | true =>
    have e1 : s.toList = [47] := (beq_iff_eq.1 hq).symm
    have HZ := Lib.hid (show Lib.indexByte s.data.toList 47 = 0 from by rw [ByteArray.toList_eq] at e1; rw [e1]; rfl)
    clear e1
    go_enter Tryd.func155, Tryd.ntmps155
    go_wp2
    go_ret
    exact ⟨by rw [HZ.out]; rfl, rfl⟩
  | false =>
    go_enter Tryd.func155, Tryd.ntmps155
    go_wp2_with (go_at_call 136; refine (sliteByte_slash _ _).mono ?_; rintro e w' ⟨rfl, rfl⟩)
    go_ret
    exact ⟨rfl, rfl⟩
theorem index_slash (s : ByteArray) (w : World) : Calls Tryd.prog 135 #[.string s, .string { data := #[47] }] w fun e w' => e = .returned (.int .i64 (Lib.indexByte s.data.toList 47)) ∧ w = w' := by
  go_enter Tryd.func135, Tryd.ntmps135
  go_wp2_with (go_at_call 155; refine (slite_slash _ _).mono ?_; rintro e w' ⟨rfl, rfl⟩)
  go_ret
  exact ⟨rfl, rfl⟩
theorem sindex_yes (s : ByteArray) (w : World) (h : firstS (bytesOf s) < s.size) : Calls Tryd.prog 155 #[.string s, .string { data := #[47] }] w fun e w' => e = .returned (.int .i64 (firstS (bytesOf s) : Nat)) ∧ w = w' :=
  (slite_slash s w).mono fun e w' ⟨h1, h2⟩ => ⟨by rw [h1, indexByte_slash]; unfold bytesOf at h ⊢; rw [if_pos (by exact h)], h2⟩
theorem sindex_no (s : ByteArray) (w : World) (h : ¬ firstS (bytesOf s) < s.size) : Calls Tryd.prog 155 #[.string s, .string { data := #[47] }] w fun e w' => e = .returned (.int .i64 (-1)) ∧ w = w' :=
  (slite_slash s w).mono fun e w' ⟨h1, h2⟩ => ⟨by rw [h1, indexByte_slash]; unfold bytesOf at h; rw [if_neg (by exact h)], h2⟩
theorem index_yes (s : ByteArray) (w : World) (h : firstS (bytesOf s) < s.size) : Calls Tryd.prog 135 #[.string s, .string { data := #[47] }] w fun e w' => e = .returned (.int .i64 (firstS (bytesOf s) : Nat)) ∧ w = w' :=
  (index_slash s w).mono fun e w' ⟨h1, h2⟩ => ⟨by rw [h1, indexByte_slash]; unfold bytesOf at h ⊢; rw [if_pos (by exact h)], h2⟩
theorem index_no (s : ByteArray) (w : World) (h : ¬ firstS (bytesOf s) < s.size) : Calls Tryd.prog 135 #[.string s, .string { data := #[47] }] w fun e w' => e = .returned (.int .i64 (-1)) ∧ w = w' :=
  (index_slash s w).mono fun e w' ⟨h1, h2⟩ => ⟨by rw [h1, indexByte_slash]; unfold bytesOf at h; rw [if_neg (by exact h)], h2⟩
theorem bytesOf_extract (s : ByteArray) (a b : Nat) : bytesOf (s.extract a b) = ((bytesOf s).drop a).take (b - a) := by
  simp [bytesOf, ByteArray.data_extract, List.map_take, List.map_drop]
theorem strOf_take (s : ByteArray) (n : Nat) : s.extract 0 n = strOf ((bytesOf s).take n) := by
  rw [← strOf_bytesOf (s.extract 0 n), bytesOf_extract]; simp
theorem strOf_drop (s : ByteArray) (n : Nat) : s.extract n s.size = strOf ((bytesOf s).drop n) := by
  rw [← strOf_bytesOf (s.extract n s.size), bytesOf_extract, List.take_of_length_le (by rw [List.length_drop, length_bytesOf]; omega)]
set_option maxRecDepth 100000 in
theorem cutL_any (s : ByteArray) (w : World) (hs : s.size ≤ 9223372036854775807) : Calls Tryd.prog 146 #[.string s, .string { data := #[47] }] w fun e w' => (∃ r b, e = .returned (.tuple #[.string (strOf ((splitP (bytesOf s)).headD [])), .string r, .bool b])) ∧ Upd [] w w' := by
  have HT := Lib.hid (splitP_headT (bytesOf s))
  have hl := length_bytesOf s
  have h0 := firstS_le (bytesOf s)
  by_cases h : firstS (bytesOf s) < s.size
  · have HY := Lib.hid (fun w => sindex_yes s w h)
    have HE := Lib.hid (strOf_take s (firstS (bytesOf s)))
    generalize firstS (bytesOf s) = f at *
    clear hl h0
    go_enter Tryd.func146, Tryd.ntmps146
    go_wp2_with (go_at_call 155; refine (HY.out _).mono ?_; rintro e w' ⟨rfl, rfl⟩)
    go_quiet (fail)
    go_wp2
    go_ret3
    exact ⟨⟨s.extract (f + 1) s.size, true, by rw [HT.out, ← HE.out]; rfl⟩, (Upd.refl _ _).drewN _⟩
  · have HY := Lib.hid (fun w => sindex_no s w h)
    have HE := Lib.hid (strOf_take s (firstS (bytesOf s)))
    have e1 : (bytesOf s).take (firstS (bytesOf s)) = bytesOf s := List.take_of_length_le (by omega)
    rw [e1] at HT
    clear hl h0 HE e1 h
    go_enter Tryd.func146, Tryd.ntmps146
    go_wp2_with (go_at_call 155; refine (HY.out _).mono ?_; rintro e w' ⟨rfl, rfl⟩)
    go_ret3
    exact ⟨⟨{ data := #[] }, false, by rw [HT.out, strOf_bytesOf]; rfl⟩, Upd.refl _ _⟩
theorem cut_any (s : ByteArray) (w : World) (hs : s.size ≤ 9223372036854775807) : Calls Tryd.prog 120 #[.string s, .string { data := #[47] }] w fun e w' => (∃ r b, e = .returned (.tuple #[.string (strOf ((splitP (bytesOf s)).headD [])), .string r, .bool b])) ∧ Upd [] w w' := by
  have HC := Lib.hid (fun w => cutL_any s w hs)
  generalize (splitP (bytesOf s)).headD [] = hd at *
  go_enter Tryd.func120, Tryd.ntmps120
  go_wp2_with (go_at_call 146; refine (HC.out _).mono ?_; rintro e w' ⟨⟨r, b, rfl⟩, hU⟩)
  go_ret3
  exact ⟨⟨r, b, rfl⟩, hU⟩
end Go.Proofs.YtibmhadnfggmlaaDoor
namespace Go.Proofs.YtibmhadnfggmlaaDoor
set_option linter.unusedVariables false
set_option linter.unusedSimpArgs false
set_option linter.unusedSectionVars false
open Go.RowKit

def letV (p : Nat × Nat × Nat) : Value := .tuple #[.int .i64 (p.1 : Nat), .int .u8 (p.2.1 : Nat), .int .u8 (p.2.2 : Nat)]
set_option maxRecDepth 100000 in
set_option maxHeartbeats 4000000 in
theorem letter_any (s : ByteArray) (w : World) (h : 0 < s.size) (hs : s.size ≤ 9223372036854775807) : Calls Tryd.prog 160 #[.string s] w fun e w' =>
    e = .returned (letV (letterP s[0].toNat)) ∧ w = w' := by
  have hlt := s[0].toNat_lt
  have ways : (s[0].toNat < 128) ∨ (128 ≤ s[0].toNat ∧ s[0].toNat < 194) ∨ (194 ≤ s[0].toNat ∧ s[0].toNat ≤ 223) ∨ (s[0].toNat = 224) ∨ (225 ≤ s[0].toNat ∧ s[0].toNat < 237) ∨ (s[0].toNat = 237) ∨ (238 ≤ s[0].toNat ∧ s[0].toNat ≤ 239) ∨ (s[0].toNat = 240) ∨ (241 ≤ s[0].toNat ∧ s[0].toNat ≤ 243) ∨ (s[0].toNat = 244) ∨ (245 ≤ s[0].toNat) := by omega
  rcases ways with h0 | h0 | h0 | h0 | h0 | h0 | h0 | h0 | h0 | h0 | h0
  · have HV : Hid (letterP s[0].toNat = (1, 0, 0)) := Lib.hid (by
      unfold letterP
      repeat' split
      all_goals first | rfl | (exfalso; omega))
    rw [HV.out]
    go_enter Tryd.func160, Tryd.ntmps160
    go_wp2
    all_goals first
      | (go_ret; exact ⟨rfl, rfl⟩)
      | (refine bodyPost_ret (results_tmp3 rfl _ _ _) rfl ⟨rfl, rfl⟩)
      | (exfalso; omega)
  · have HV : Hid (letterP s[0].toNat = (0, 0, 0)) := Lib.hid (by
      unfold letterP
      repeat' split
      all_goals first | rfl | (exfalso; omega))
    rw [HV.out]
    go_enter Tryd.func160, Tryd.ntmps160
    go_wp2
    all_goals first
      | (go_ret; exact ⟨rfl, rfl⟩)
      | (refine bodyPost_ret (results_tmp3 rfl _ _ _) rfl ⟨rfl, rfl⟩)
      | (exfalso; omega)
  · have HV : Hid (letterP s[0].toNat = (2, 128, 191)) := Lib.hid (by
      unfold letterP
      repeat' split
      all_goals first | rfl | (exfalso; omega))
    rw [HV.out]
    go_enter Tryd.func160, Tryd.ntmps160
    go_wp2
    all_goals first
      | (go_ret; exact ⟨rfl, rfl⟩)
      | (refine bodyPost_ret (results_tmp3 rfl _ _ _) rfl ⟨rfl, rfl⟩)
      | (exfalso; omega)
  · have HV : Hid (letterP s[0].toNat = (3, 160, 191)) := Lib.hid (by
      unfold letterP
      repeat' split
      all_goals first | rfl | (exfalso; omega))
    rw [HV.out]
    go_enter Tryd.func160, Tryd.ntmps160
    go_wp2
    all_goals first
      | (go_ret; exact ⟨rfl, rfl⟩)
      | (refine bodyPost_ret (results_tmp3 rfl _ _ _) rfl ⟨rfl, rfl⟩)
      | (exfalso; omega)
  · have HV : Hid (letterP s[0].toNat = (3, 128, 191)) := Lib.hid (by
      unfold letterP
      repeat' split
      all_goals first | rfl | (exfalso; omega))
    rw [HV.out]
    go_enter Tryd.func160, Tryd.ntmps160
    go_wp2
    all_goals first
      | (go_ret; exact ⟨rfl, rfl⟩)
      | (refine bodyPost_ret (results_tmp3 rfl _ _ _) rfl ⟨rfl, rfl⟩)
      | (exfalso; omega)
  · have HV : Hid (letterP s[0].toNat = (3, 128, 159)) := Lib.hid (by
      unfold letterP
      repeat' split
      all_goals first | rfl | (exfalso; omega))
    rw [HV.out]
    go_enter Tryd.func160, Tryd.ntmps160
    go_wp2
    all_goals first
      | (go_ret; exact ⟨rfl, rfl⟩)
      | (refine bodyPost_ret (results_tmp3 rfl _ _ _) rfl ⟨rfl, rfl⟩)
      | (exfalso; omega)
  · have HV : Hid (letterP s[0].toNat = (3, 128, 191)) := Lib.hid (by
      unfold letterP
      repeat' split
      all_goals first | rfl | (exfalso; omega))
    rw [HV.out]
    go_enter Tryd.func160, Tryd.ntmps160
    go_wp2
    all_goals first
      | (go_ret; exact ⟨rfl, rfl⟩)
      | (refine bodyPost_ret (results_tmp3 rfl _ _ _) rfl ⟨rfl, rfl⟩)
      | (exfalso; omega)
  · have HV : Hid (letterP s[0].toNat = (4, 144, 191)) := Lib.hid (by
      unfold letterP
      repeat' split
      all_goals first | rfl | (exfalso; omega))
    rw [HV.out]
    go_enter Tryd.func160, Tryd.ntmps160
    go_wp2
    all_goals first
      | (go_ret; exact ⟨rfl, rfl⟩)
      | (refine bodyPost_ret (results_tmp3 rfl _ _ _) rfl ⟨rfl, rfl⟩)
      | (exfalso; omega)
  · have HV : Hid (letterP s[0].toNat = (4, 128, 191)) := Lib.hid (by
      unfold letterP
      repeat' split
      all_goals first | rfl | (exfalso; omega))
    rw [HV.out]
    go_enter Tryd.func160, Tryd.ntmps160
    go_wp2
    all_goals first
      | (go_ret; exact ⟨rfl, rfl⟩)
      | (refine bodyPost_ret (results_tmp3 rfl _ _ _) rfl ⟨rfl, rfl⟩)
      | (exfalso; omega)
  · have HV : Hid (letterP s[0].toNat = (4, 128, 143)) := Lib.hid (by
      unfold letterP
      repeat' split
      all_goals first | rfl | (exfalso; omega))
    rw [HV.out]
    go_enter Tryd.func160, Tryd.ntmps160
    go_wp2
    all_goals first
      | (go_ret; exact ⟨rfl, rfl⟩)
      | (refine bodyPost_ret (results_tmp3 rfl _ _ _) rfl ⟨rfl, rfl⟩)
      | (exfalso; omega)
  · have HV : Hid (letterP s[0].toNat = (0, 0, 0)) := Lib.hid (by
      unfold letterP
      repeat' split
      all_goals first | rfl | (exfalso; omega))
    rw [HV.out]
    go_enter Tryd.func160, Tryd.ntmps160
    go_wp2
    all_goals first
      | (go_ret; exact ⟨rfl, rfl⟩)
      | (refine bodyPost_ret (results_tmp3 rfl _ _ _) rfl ⟨rfl, rfl⟩)
      | (exfalso; omega)
end Go.Proofs.YtibmhadnfggmlaaDoor
namespace Go.Proofs.YtibmhadnfggmlaaDoor
set_option linter.unusedVariables false
set_option linter.unusedSimpArgs false
set_option linter.unusedSectionVars false
open Go.RowKit
set_option linter.unusedVariables false

theorem tailOk_iff : ∀ (m : Nat) (lo hi : Nat) (l : List Nat), tailOk lo hi m l = true ↔ m ≤ l.length ∧ ∀ i x, i < m → l[i]? = some x → (if i = 0 then lo else 128) ≤ x ∧ x ≤ (if i = 0 then hi else 191)
  | 0, lo, hi, l => by simp [tailOk]
  | m + 1, lo, hi, [] => by simp [tailOk]
  | m + 1, lo, hi, b :: r => by
    simp only [tailOk, Bool.and_eq_true, decide_eq_true_eq, tailOk_iff m 128 191 r, List.length_cons]
    constructor
    · rintro ⟨⟨h1, h2⟩, h3, h4⟩
      refine ⟨by omega, fun i x hi hx => ?_⟩
      cases i with
      | zero => simp at hx; subst hx; exact ⟨h1, h2⟩
      | succ i =>
        have := h4 i x (by omega) (by simpa using hx)
        rw [if_neg (by omega), if_neg (by omega)]
        split at this <;> exact this
    · rintro ⟨h1, h2⟩
      refine ⟨by simpa using h2 0 b (by omega) (by simp), by omega, fun i x hi hx => ?_⟩
      have := h2 (i + 1) x (by omega) (by simpa using hx)
      rw [if_neg (by omega), if_neg (by omega)] at this
      split <;> exact this
section
variable {L : List Nat} {c n lo hi : Nat}
theorem utf_split (h0 : L[0]? = some c) (hp : letterP c = (n, lo, hi)) : utfP L = (decide (n ≠ 0) && tailOk lo hi (n - 1) L.tail && utfP (L.drop n)) ∨ n = 0 := by
  cases L with
  | nil => simp at h0
  | cons b r =>
    simp at h0; subst h0
    by_cases e : n = 0
    · exact .inr e
    · left
      rw [utfP_cons, hp]
      obtain ⟨m, rfl⟩ : ∃ m, n = m + 1 := ⟨n - 1, by omega⟩
      simp
theorem utf_zero (h0 : L[0]? = some c) (hp : letterP c = (0, lo, hi)) : utfP L = false := by
  cases L with
  | nil => simp at h0
  | cons b r =>
    simp at h0; subst h0
    rw [utfP_cons, hp]; simp
theorem utf_no (h0 : L[0]? = some c) (hp : letterP c = (n, lo, hi)) (h : tailOk lo hi (n - 1) L.tail = false) : utfP L = false := by
  rcases utf_split h0 hp with e | e
  · rw [e, h]; simp
  · subst e; exact utf_zero h0 hp
theorem utf_long (h0 : L[0]? = some c) (hp : letterP c = (n, lo, hi)) (h : L.length < n) : utfP L = false := by
  refine utf_no h0 hp ?_
  cases ht : tailOk lo hi (n - 1) L.tail with
  | false => rfl
  | true =>
    have := ((tailOk_iff _ _ _ _).1 ht).1
    have : 0 < L.length := by cases L with
      | nil => simp at h0
      | cons => simp
    simp at *; omega
theorem utf_bad (h0 : L[0]? = some c) (hp : letterP c = (n, lo, hi)) {i x : Nat} (hi1 : 1 ≤ i) (hin : i < n) (hx : L[i]? = some x) (h : ¬ ((if i = 1 then lo else 128) ≤ x ∧ x ≤ (if i = 1 then hi else 191))) : utfP L = false := by
  refine utf_no h0 hp ?_
  cases ht : tailOk lo hi (n - 1) L.tail with
  | false => rfl
  | true =>
    exfalso; apply h
    have := ((tailOk_iff _ _ _ _).1 ht).2 (i - 1) x (by omega) (by rw [List.getElem?_tail]; rw [show i - 1 + 1 = i by omega]; exact hx)
    by_cases e : i = 1
    · subst e; simpa using this
    · rw [if_neg (by omega), if_neg (by omega)] at this; rw [if_neg e, if_neg e]; exact this
theorem utf_yes (h0 : L[0]? = some c) (hp : letterP c = (n, lo, hi)) (hn : 1 ≤ n) (hl : n ≤ L.length) (h : ∀ i x, 1 ≤ i → i < n → L[i]? = some x → (if i = 1 then lo else 128) ≤ x ∧ x ≤ (if i = 1 then hi else 191)) : utfP L = utfP (L.drop n) := by
  rcases utf_split h0 hp with e | e
  · have ht : tailOk lo hi (n - 1) L.tail = true := by
      refine (tailOk_iff _ _ _ _).2 ⟨by simp; omega, fun i x hi hx => ?_⟩
      have := h (i + 1) x (by omega) (by omega) (by rw [List.getElem?_tail] at hx; exact hx)
      by_cases e : i = 0
      · subst e; simpa using this
      · rw [if_neg (by omega), if_neg (by omega)] at this; rw [if_neg e, if_neg e]; exact this
    rw [e, ht, decide_eq_true (by omega)]; simp
  · omega
end
theorem bytesOf_get? (s : ByteArray) (i : Nat) (h : i < s.size) : (bytesOf s)[i]? = some s[i].toNat := by
  rw [List.getElem?_eq_getElem (by rw [length_bytesOf]; exact h), bytesOf_get s i h]
theorem bytesOf_drop (s : ByteArray) (n : Nat) : bytesOf (s.extract n s.size) = (bytesOf s).drop n := by
  rw [bytesOf_extract, List.take_of_length_le (by rw [List.length_drop, length_bytesOf]; omega)]

theorem toList_nil (r : ByteArray) (h : r.size = 0) : r.toList = [] := by
  rw [ByteArray.toList_eq]; exact List.eq_nil_of_length_eq_zero (by rw [Array.length_toList]; exact h)
theorem toList_some (r : ByteArray) (h : 0 < r.size) : (!r.toList.isEmpty) = true := by
  rw [ByteArray.toList_eq]
  cases hh : r.data.toList with
  | nil =>
    exfalso
    have h1 : r.data.toList.length = r.size := by rw [Array.length_toList]; rfl
    rw [hh] at h1; simp at h1; omega
  | cons => rfl
set_option maxRecDepth 100000 in
set_option maxHeartbeats 4000000 in
theorem letters_any (s : ByteArray) (w : World) (hs : s.size ≤ 9223372036854775807) : Calls Tryd.prog 148 #[.string s] w fun e w' => e = .returned (.bool (utfP (bytesOf s))) ∧ w = w' := by
  go_enter Tryd.func148, Tryd.ntmps148
  go_wp2
  go_loopg [0] s.size (fun g t wr => ∃ r : ByteArray, t = .string r ∧ g = r.size ∧ r.size ≤ s.size ∧ Hid (utfP (bytesOf s) = utfP (bytesOf r)) ∧ w = wr)
  case atStart => exact ⟨s, rfl, rfl, Nat.le_refl _, Lib.hid rfl, rfl⟩
  case round =>
    obtain ⟨r, rfl, rfl, hrs, HU, rfl⟩ := hrel
    by_cases hz : r.size = 0
    · have hE : utfP (bytesOf r) = true := by
        have e0 : bytesOf r = [] := List.eq_nil_of_length_eq_zero (by rw [length_bytesOf]; exact hz)
        rw [e0]; rfl
      have HE := Lib.hid (HU.out.trans hE)
      have e2 : (!r.toList.isEmpty) = false := by rw [toList_nil r hz]; rfl
      clear hE HU hz
      go_wp2
      go_ret
      exact ⟨by rw [HE.out]; rfl, rfl⟩
    · have hpos : 0 < r.size := by omega
      have hr1 : r.size ≤ 9223372036854775807 := by omega
      have e2 : (!r.toList.isEmpty) = true := toList_some r hpos
      have HL := Lib.hid (fun w => letter_any r w hpos hr1)
      have hg0 := bytesOf_get? r 0 hpos
      have hle := letterP_le r[0].toNat
      obtain ⟨⟨n, lo, hi⟩, hp⟩ : ∃ p, letterP r[0].toNat = p := ⟨_, rfl⟩
      rw [hp] at HL hle
      have HP := Lib.hid hp
      have HG := Lib.hid hg0
      unfold letV at HL
      dsimp only at HL hle
      clear hz hp hg0
      by_cases c0 : n = 0
      · subst c0
        have HE := Lib.hid (HU.out.trans (utf_zero HG.out HP.out))
        clear HU HG HP hrs
        go_wp2_with (go_at_call 160; refine (HL.out _).mono ?_; rintro e w' ⟨rfl, rfl⟩)
        go_ret
        exact ⟨by rw [HE.out]; rfl, rfl⟩
      · have t0 : ((n : Int) == 0) = false := by rw [beq_eq_false_iff_ne]; omega
        by_cases c1 : r.size < n
        · have HE := Lib.hid (HU.out.trans (utf_long HG.out HP.out (by rw [length_bytesOf]; exact c1)))
          clear HU HG HP hrs
          go_wp2_with (go_at_call 160; refine (HL.out _).mono ?_; rintro e w' ⟨rfl, rfl⟩)
          go_ret
          exact ⟨by rw [HE.out]; rfl, rfl⟩
        · have hn1 : 1 ≤ n := by omega
          have hnr : n ≤ r.size := by omega
          have t1 : decide (r.size < n) = false := decide_eq_false c1
          by_cases c2 : 2 ≤ n
          · have h1r : 1 < r.size := by omega
            have HG1 := Lib.hid (bytesOf_get? r 1 h1r)
            have t2 : decide (1 < n) = true := decide_eq_true (by omega)
            by_cases c3 : lo ≤ r[1].toNat ∧ r[1].toNat ≤ hi
            · have HS2 : Hid (∀ x, 1 < n → (bytesOf r)[1]? = some x → lo ≤ x ∧ x ≤ hi) := Lib.hid (fun x _ h => by rw [HG1.out] at h; simp at h; subst h; exact c3)
              have t3 : decide (r[1].toNat < lo) = false := decide_eq_false (by omega)
              have t4 : decide (hi < r[1].toNat) = false := decide_eq_false (by omega)
              clear c3 HG1
              go_wp2_with (go_at_call 160; refine (HL.out _).mono ?_; rintro e w' ⟨rfl, rfl⟩)
              clear HL
              go_loopg [6] (n - 2) (fun g t wr => ∃ j : Nat, t = .int .i64 (j : Nat) ∧ 2 ≤ j ∧ j ≤ n + 1 ∧ g = n - j ∧ Hid (∀ i x, 2 ≤ i → i < j → (bytesOf r)[i]? = some x → 128 ≤ x ∧ x ≤ 191) ∧ w = wr)
              case atStart => exact ⟨2, rfl, Nat.le_refl _, by omega, rfl, Lib.hid (fun i x h1 h2 => by omega), rfl⟩
              case round =>
                obtain ⟨j, rfl, hj2, hjn, rfl, HA, rfl⟩ := hrel
                by_cases cj : j < n
                · have hjr : j < r.size := by omega
                  have HGJ := Lib.hid (bytesOf_get? r j hjr)
                  by_cases cb : 128 ≤ r[j].toNat ∧ r[j].toNat ≤ 191
                  · have t5 : decide ((r[j].toNat : Int) < 128) = false := decide_eq_false (by omega)
                    have t6 : decide (191 < (r[j].toNat : Int)) = false := decide_eq_false (by omega)
                    have HA2 : Hid (∀ i x, 2 ≤ i → i < j + 1 → (bytesOf r)[i]? = some x → 128 ≤ x ∧ x ≤ 191) := Lib.hid (fun i x h1 h2 h3 => by
                      by_cases e : i = j
                      · subst e; rw [HGJ.out] at h3; simp at h3; omega
                      · exact HA.out i x h1 (by omega) h3)
                    clear HA HGJ cb
                    go_wp2
                    go_roundg (n - (j + 1))
                    all_goals first
                      | omega
                      | exact ⟨j + 1, by go_num, by omega, by omega, rfl, HA2, rfl⟩
                  · have HE := Lib.hid (HU.out.trans (utf_bad HG.out HP.out (i := j) (by omega) (by omega) HGJ.out (by rw [if_neg (by omega), if_neg (by omega)]; exact cb)))
                    clear HA HGJ HU HG HP HS2
                    by_cases cl : r[j].toNat < 128
                    · have t5 : decide ((r[j].toNat : Int) < 128) = true := decide_eq_true (by omega)
                      clear cb
                      go_wp2
                      go_ret
                      exact ⟨by rw [HE.out]; rfl, rfl⟩
                    · have t5 : decide ((r[j].toNat : Int) < 128) = false := decide_eq_false (by omega)
                      have t6 : decide (191 < (r[j].toNat : Int)) = true := decide_eq_true (by omega)
                      clear cb
                      go_wp2
                      go_ret
                      exact ⟨by rw [HE.out]; rfl, rfl⟩
                · have hlen := length_bytesOf r
                  have HE := Lib.hid (HU.out.trans (utf_yes HG.out HP.out hn1 (by omega) (fun i x h1 h2 h3 => by
                    by_cases e : i = 1
                    · subst e; rw [if_pos rfl, if_pos rfl]; exact HS2.out x (by omega) h3
                    · rw [if_neg e, if_neg e]; exact HA.out i x (by omega) (by omega) h3)))
                  have HSZ : Hid ((r.extract n r.size).size = r.size - n) := Lib.hid (by rw [ByteArray.size_extract]; omega)
                  rw [← bytesOf_drop] at HE
                  clear HA HU HG HP HS2 hlen
                  go_wp2
                  go_roundg (r.size - n)
                  all_goals first
                    | omega
                    | exact ⟨r.extract n r.size, rfl, HSZ.out.symm, by rw [HSZ.out]; omega, HE, rfl⟩
            · have HE := Lib.hid (HU.out.trans (utf_bad HG.out HP.out (i := 1) (by omega) (by omega) HG1.out (by simpa using c3)))
              clear HU HG HP HG1 hrs
              by_cases c4 : r[1].toNat < lo
              · have t3 : decide (r[1].toNat < lo) = true := decide_eq_true c4
                clear c3
                go_wp2_with (go_at_call 160; refine (HL.out _).mono ?_; rintro e w' ⟨rfl, rfl⟩)
                go_ret
                exact ⟨by rw [HE.out]; rfl, rfl⟩
              · have t3 : decide (r[1].toNat < lo) = false := decide_eq_false c4
                have t4 : decide (hi < r[1].toNat) = true := decide_eq_true (by omega)
                clear c3
                go_wp2_with (go_at_call 160; refine (HL.out _).mono ?_; rintro e w' ⟨rfl, rfl⟩)
                go_ret
                exact ⟨by rw [HE.out]; rfl, rfl⟩
          · have t2 : decide (1 < n) = false := decide_eq_false (by omega)
            have HS2 : Hid (∀ x, 1 < n → (bytesOf r)[1]? = some x → lo ≤ x ∧ x ≤ hi) := Lib.hid (fun x h _ => by omega)
            go_wp2_with (go_at_call 160; refine (HL.out _).mono ?_; rintro e w' ⟨rfl, rfl⟩)
            clear HL
            go_loopg [6] (n - 2) (fun g t wr => ∃ j : Nat, t = .int .i64 (j : Nat) ∧ 2 ≤ j ∧ j ≤ n + 1 ∧ g = n - j ∧ Hid (∀ i x, 2 ≤ i → i < j → (bytesOf r)[i]? = some x → 128 ≤ x ∧ x ≤ 191) ∧ w = wr)
            case atStart => exact ⟨2, rfl, Nat.le_refl _, by omega, rfl, Lib.hid (fun i x h1 h2 => by omega), rfl⟩
            case round =>
              obtain ⟨j, rfl, hj2, hjn, rfl, HA, rfl⟩ := hrel
              by_cases cj : j < n
              · have hjr : j < r.size := by omega
                have HGJ := Lib.hid (bytesOf_get? r j hjr)
                by_cases cb : 128 ≤ r[j].toNat ∧ r[j].toNat ≤ 191
                · have t5 : decide ((r[j].toNat : Int) < 128) = false := decide_eq_false (by omega)
                  have t6 : decide (191 < (r[j].toNat : Int)) = false := decide_eq_false (by omega)
                  have HA2 : Hid (∀ i x, 2 ≤ i → i < j + 1 → (bytesOf r)[i]? = some x → 128 ≤ x ∧ x ≤ 191) := Lib.hid (fun i x h1 h2 h3 => by
                    by_cases e : i = j
                    · subst e; rw [HGJ.out] at h3; simp at h3; omega
                    · exact HA.out i x h1 (by omega) h3)
                  clear HA HGJ cb
                  go_wp2
                  go_roundg (n - (j + 1))
                  all_goals first
                    | omega
                    | exact ⟨j + 1, by go_num, by omega, by omega, rfl, HA2, rfl⟩
                · have HE := Lib.hid (HU.out.trans (utf_bad HG.out HP.out (i := j) (by omega) (by omega) HGJ.out (by rw [if_neg (by omega), if_neg (by omega)]; exact cb)))
                  clear HA HGJ HU HG HP HS2
                  by_cases cl : r[j].toNat < 128
                  · have t5 : decide ((r[j].toNat : Int) < 128) = true := decide_eq_true (by omega)
                    clear cb
                    go_wp2
                    go_ret
                    exact ⟨by rw [HE.out]; rfl, rfl⟩
                  · have t5 : decide ((r[j].toNat : Int) < 128) = false := decide_eq_false (by omega)
                    have t6 : decide (191 < (r[j].toNat : Int)) = true := decide_eq_true (by omega)
                    clear cb
                    go_wp2
                    go_ret
                    exact ⟨by rw [HE.out]; rfl, rfl⟩
              · have hlen := length_bytesOf r
                have HE := Lib.hid (HU.out.trans (utf_yes HG.out HP.out hn1 (by omega) (fun i x h1 h2 h3 => by
                  by_cases e : i = 1
                  · subst e; rw [if_pos rfl, if_pos rfl]; exact HS2.out x (by omega) h3
                  · rw [if_neg e, if_neg e]; exact HA.out i x (by omega) (by omega) h3)))
                have HSZ : Hid ((r.extract n r.size).size = r.size - n) := Lib.hid (by rw [ByteArray.size_extract]; omega)
                rw [← bytesOf_drop] at HE
                clear HA HU HG HP HS2 hlen
                go_wp2
                go_roundg (r.size - n)
                all_goals first
                  | omega
                  | exact ⟨r.extract n r.size, rfl, HSZ.out.symm, by rw [HSZ.out]; omega, HE, rfl⟩
end Go.Proofs.YtibmhadnfggmlaaDoor
