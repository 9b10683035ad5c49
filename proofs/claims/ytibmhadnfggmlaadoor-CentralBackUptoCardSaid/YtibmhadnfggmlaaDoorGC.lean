/- Package name: plain: which bytes may begin a letter (UTF-8), and which texts are letters. -/
import Derived.WalkKit
import Derived.Handy
import Derived.Lib.Hide
import Derived.Test.YtibmhadnfggmlaaDoorProg
import Derived.Test.YtibmhadnfggmlaaDoorGA
import Derived.Shelf.Abstract
import Derived.Shelf.RegionOpen
import Derived.OwnWalkIn
import Derived.TacticsInMore
import Derived.LoopNIn
import Derived.LoopIn
import Derived.Sort.LoopGhostIn
import Derived.Lib.Bytealg
import Derived.Outline
import Derived.Deep.QuietTactic
import Derived.BigQuiet
import Derived.LoopTactic
namespace Go.Proofs.YtibmhadnfggmlaaDoor
set_option linter.unusedVariables false
set_option linter.unusedSimpArgs false
set_option linter.unusedSectionVars false

/-- How many bytes a letter has that begins so, and between which the second one is; 0: there is none. -/
def letterP (c : Nat) : Nat × Nat × Nat :=
  if c < 128 then (1, 0, 0) else if 194 ≤ c ∧ c ≤ 223 then (2, 128, 191) else if c = 224 then (3, 160, 191) else if c = 237 then (3, 128, 159)
  else if 225 ≤ c ∧ c ≤ 239 then (3, 128, 191) else if c = 240 then (4, 144, 191) else if 241 ≤ c ∧ c ≤ 243 then (4, 128, 191) else if c = 244 then (4, 128, 143) else (0, 0, 0)
/-- Are the bytes behind the first one such as its letter wants? -/
def tailOk (lo hi : Nat) : Nat → List Nat → Bool
  | 0, _ => true
  | _ + 1, [] => false
  | n + 1, b :: r => decide (lo ≤ b) && decide (b ≤ hi) && tailOk 128 191 n r
/-- Is a text letters? -/
def utfF : Nat → List Nat → Bool
  | 0, l => l.isEmpty
  | _ + 1, [] => true
  | f + 1, c :: r => decide ((letterP c).1 ≠ 0) && tailOk (letterP c).2.1 (letterP c).2.2 ((letterP c).1 - 1) r && utfF f (r.drop ((letterP c).1 - 1))
def utfP (l : List Nat) : Bool := utfF l.length l
theorem letterP_le (c : Nat) : (letterP c).1 ≤ 4 := by
  unfold letterP; repeat' split
  all_goals (dsimp only; omega)
theorem tailOk_len (lo hi : Nat) : ∀ (n : Nat) (l : List Nat), tailOk lo hi n l = true → n ≤ l.length
  | 0, _, _ => Nat.zero_le _
  | _ + 1, [], h => by simp [tailOk] at h
  | n + 1, b :: r, h => by
    simp only [tailOk, Bool.and_eq_true] at h
    have := tailOk_len 128 191 n r h.2
    rw [List.length_cons]; omega
/-- More fuel than bytes changes nothing. -/
theorem utfF_more : ∀ (f : Nat) (l : List Nat), l.length ≤ f → utfF f l = utfF l.length l
  | 0, l, h => by
    have : l = [] := List.eq_nil_of_length_eq_zero (by omega)
    subst this; rfl
  | f + 1, [], _ => rfl
  | f + 1, c :: r, h => by
    have hr : r.length ≤ f := by rw [List.length_cons] at h; omega
    have hd : (r.drop ((letterP c).1 - 1)).length ≤ r.length := by rw [List.length_drop]; omega
    show (decide ((letterP c).1 ≠ 0) && tailOk (letterP c).2.1 (letterP c).2.2 ((letterP c).1 - 1) r && utfF f (r.drop ((letterP c).1 - 1))) = (decide ((letterP c).1 ≠ 0) && tailOk (letterP c).2.1 (letterP c).2.2 ((letterP c).1 - 1) r && utfF r.length (r.drop ((letterP c).1 - 1)))
    rw [utfF_more f _ (by omega), utfF_more r.length _ hd]
  termination_by f _ _ => f
  decreasing_by all_goals (simp_wf; try (rw [List.length_cons] at *); omega)
theorem utfP_cons (c : Nat) (r : List Nat) : utfP (c :: r) = (decide ((letterP c).1 ≠ 0) && tailOk (letterP c).2.1 (letterP c).2.2 ((letterP c).1 - 1) r && utfP (r.drop ((letterP c).1 - 1))) := by
  show (decide ((letterP c).1 ≠ 0) && tailOk (letterP c).2.1 (letterP c).2.2 ((letterP c).1 - 1) r && utfF r.length (r.drop ((letterP c).1 - 1))) = _
  rw [utfF_more r.length _ (by rw [List.length_drop]; omega)]
  rfl
/-- A part of a path: its bytes, and its length. -/
def partOk (l : List Nat) : Bool := l.all (fun c => !(decide (c < 32) || decide (c = 127) || decide (c = 47) || decide (c = 92) || decide (c = 58))) && decide (1 ≤ l.length) && decide (l.length ≤ 60) && decide (l ≠ [46]) && decide (l ≠ [46, 46]) && utfP l
end Go.Proofs.YtibmhadnfggmlaaDoor
namespace Go.Proofs.YtibmhadnfggmlaaDoor
set_option linter.unusedVariables false
set_option linter.unusedSimpArgs false
set_option linter.unusedSectionVars false
open Go.RowKit

def letV (p : Nat × Nat × Nat) : Value := .tuple #[.int .i64 (p.1 : Nat), .int .u8 (p.2.1 : Nat), .int .u8 (p.2.2 : Nat)]
set_option maxRecDepth 100000 in
set_option maxHeartbeats 4000000 in
theorem letter_any (s : ByteArray) (w : World) (h : 0 < s.size) (hs : s.size ≤ 9223372036854775807) : Calls Tryd.prog 160 #[.string s] w fun e w' =>
    e = .returned (letV (letterP s[0].toNat)) ∧ w = w' := by
  have hlt := s[0].toNat_lt
  have ways : (s[0].toNat < 128) ∨ (128 ≤ s[0].toNat ∧ s[0].toNat < 194) ∨ (194 ≤ s[0].toNat ∧ s[0].toNat ≤ 223) ∨ (s[0].toNat = 224) ∨ (225 ≤ s[0].toNat ∧ s[0].toNat < 237) ∨ (s[0].toNat = 237) ∨ (238 ≤ s[0].toNat ∧ s[0].toNat ≤ 239) ∨ (s[0].toNat = 240) ∨ (241 ≤ s[0].toNat ∧ s[0].toNat ≤ 243) ∨ (s[0].toNat = 244) ∨ (245 ≤ s[0].toNat) := by omega
  rcases ways with h0 | h0 | h0 | h0 | h0 | h0 | h0 | h0 | h0 | h0 | h0
  · have HV : Hid (letterP s[0].toNat = (1, 0, 0)) := Lib.hid (by
      unfold letterP
      repeat' split
      all_goals first | rfl | (exfalso; omega))
    rw [HV.out]
    go_enter Tryd.func160, Tryd.ntmps160
    go_wp2
    all_goals first
      | (go_ret; exact ⟨rfl, rfl⟩)
      | (refine bodyPost_ret (results_tmp3 rfl _ _ _) rfl ⟨rfl, rfl⟩)
      | (exfalso; omega)
  · have HV : Hid (letterP s[0].toNat = (0, 0, 0)) := Lib.hid (by
      unfold letterP
      repeat' split
      all_goals first | rfl | (exfalso; omega))
    rw [HV.out]
    go_enter Tryd.func160, Tryd.ntmps160
    go_wp2
    all_goals first
      | (go_ret; exact ⟨rfl, rfl⟩)
      | (refine bodyPost_ret (results_tmp3 rfl _ _ _) rfl ⟨rfl, rfl⟩)
      | (exfalso; omega)
  · have HV : Hid (letterP s[0].toNat = (2, 128, 191)) := Lib.hid (by
      unfold letterP
      repeat' split
      all_goals first | rfl | (exfalso; omega))
    rw [HV.out]
    go_enter Tryd.func160, Tryd.ntmps160
    go_wp2
    all_goals first
      | (go_ret; exact ⟨rfl, rfl⟩)
      | (refine bodyPost_ret (results_tmp3 rfl _ _ _) rfl ⟨rfl, rfl⟩)
      | (exfalso; omega)
  · have HV : Hid (letterP s[0].toNat = (3, 160, 191)) := Lib.hid (by
      unfold letterP
      repeat' split
      all_goals first | rfl | (exfalso; omega))
    rw [HV.out]
    go_enter Tryd.func160, Tryd.ntmps160
    go_wp2
    all_goals first
      | (go_ret; exact ⟨rfl, rfl⟩)
      | (refine bodyPost_ret (results_tmp3 rfl _ _ _) rfl ⟨rfl, rfl⟩)
      | (exfalso; omega)
  · have HV : Hid (letterP s[0].toNat = (3, 128, 191)) := Lib.hid (by
      unfold letterP
      repeat' split
      all_goals first | rfl | (exfalso; omega))
    rw [HV.out]
    go_enter Tryd.func160, Tryd.ntmps160
    go_wp2
    all_goals first
      | (go_ret; exact ⟨rfl, rfl⟩)
      | (refine bodyPost_ret (results_tmp3 rfl _ _ _) rfl ⟨rfl, rfl⟩)
      | (exfalso; omega)
  · have HV : Hid (letterP s[0].toNat = (3, 128, 159)) := Lib.hid (by
      unfold letterP
      repeat' split
      all_goals first | rfl | (exfalso; omega))
    rw [HV.out]
    go_enter Tryd.func160, Tryd.ntmps160
    go_wp2
    all_goals first
      | (go_ret; exact ⟨rfl, rfl⟩)
      | (refine bodyPost_ret (results_tmp3 rfl _ _ _) rfl ⟨rfl, rfl⟩)
      | (exfalso; omega)
  · have HV : Hid (letterP s[0].toNat = (3, 128, 191)) := Lib.hid (by
      unfold letterP
      repeat' split
      all_goals first | rfl | (exfalso; omega))
    rw [HV.out]
    go_enter Tryd.func160, Tryd.ntmps160
    go_wp2
    all_goals first
      | (go_ret; exact ⟨rfl, rfl⟩)
      | (refine bodyPost_ret (results_tmp3 rfl _ _ _) rfl ⟨rfl, rfl⟩)
      | (exfalso; omega)
  · have HV : Hid (letterP s[0].toNat = (4, 144, 191)) := Lib.hid (by
      unfold letterP
      repeat' split
      all_goals first | rfl | (exfalso; omega))
    rw [HV.out]
    go_enter Tryd.func160, Tryd.ntmps160
    go_wp2
    all_goals first
      | (go_ret; exact ⟨rfl, rfl⟩)
      | (refine bodyPost_ret (results_tmp3 rfl _ _ _) rfl ⟨rfl, rfl⟩)
      | (exfalso; omega)
  · have HV : Hid (letterP s[0].toNat = (4, 128, 191)) := Lib.hid (by
      unfold letterP
      repeat' split
      all_goals first | rfl | (exfalso; omega))
    rw [HV.out]
    go_enter Tryd.func160, Tryd.ntmps160
    go_wp2
    all_goals first
      | (go_ret; exact ⟨rfl, rfl⟩)
      | (refine bodyPost_ret (results_tmp3 rfl _ _ _) rfl ⟨rfl, rfl⟩)
      | (exfalso; omega)
  · have HV : Hid (letterP s[0].toNat = (4, 128, 143)) := Lib.hid (by
      unfold letterP
      repeat' split
      all_goals first | rfl | (exfalso; omega))
    rw [HV.out]
    go_enter Tryd.func160, Tryd.ntmps160
    go_wp2
    all_goals first
      | (go_ret; exact ⟨rfl, rfl⟩)
      | (refine bodyPost_ret (results_tmp3 rfl _ _ _) rfl ⟨rfl, rfl⟩)
      | (exfalso; omega)
  · have HV : Hid (letterP s[0].toNat = (0, 0, 0)) := Lib.hid (by
      unfold letterP
      repeat' split
      all_goals first | rfl | (exfalso; omega))
    rw [HV.out]
    go_enter Tryd.func160, Tryd.ntmps160
    go_wp2
    all_goals first
      | (go_ret; exact ⟨rfl, rfl⟩)
      | (refine bodyPost_ret (results_tmp3 rfl _ _ _) rfl ⟨rfl, rfl⟩)
      | (exfalso; omega)
end Go.Proofs.YtibmhadnfggmlaaDoor
namespace Go.Proofs.YtibmhadnfggmlaaDoor
set_option linter.unusedVariables false
set_option linter.unusedSimpArgs false
set_option linter.unusedSectionVars false

/-- What stands between slashes. -/
def splitP : List Nat → List (List Nat)
  | [] => [[]]
  | c :: r => if c = 47 then [] :: splitP r else (c :: (splitP r).headD []) :: (splitP r).tail
theorem splitP_ne (l : List Nat) : splitP l ≠ [] := by
  cases l with
  | nil => simp [splitP]
  | cons c r => unfold splitP; split <;> simp
theorem splitP_ht (l : List Nat) : splitP l = (splitP l).headD [] :: (splitP l).tail := by
  cases h : splitP l with
  | nil => exact absurd h (splitP_ne l)
  | cons a b => rfl
theorem splitP_none : ∀ (l : List Nat), 47 ∉ l → splitP l = [l]
  | [], _ => rfl
  | c :: r, h => by
    simp only [List.mem_cons, not_or] at h
    unfold splitP
    rw [if_neg (fun e => h.1 e.symm), splitP_none r h.2]
    rfl
theorem splitP_app : ∀ (a r : List Nat), 47 ∉ a → splitP (a ++ 47 :: r) = a :: splitP r
  | [], r, _ => by simp [splitP]
  | c :: a, r, h => by
    simp only [List.mem_cons, not_or] at h
    have e : splitP (c :: (a ++ 47 :: r)) = (c :: (splitP (a ++ 47 :: r)).headD []) :: (splitP (a ++ 47 :: r)).tail := by rw [splitP, if_neg (fun e => h.1 e.symm)]
    show splitP (c :: (a ++ 47 :: r)) = _
    rw [e, splitP_app a r h.2]
    rfl
/-- The front that has been read, laid ahead of the parts of what is left. -/
def joinP (s : List Nat) (L : List (List Nat)) : List (List Nat) := (s ++ L.headD []) :: L.tail
theorem joinP_nil (l : List Nat) : joinP [] (splitP l) = splitP l := (splitP_ht l).symm
theorem joinP_slash (s r : List Nat) : joinP s (splitP (47 :: r)) = s :: joinP [] (splitP r) := by
  rw [joinP_nil]; simp [joinP, splitP]
theorem joinP_step (s r : List Nat) (c : Nat) (h : c ≠ 47) : joinP s (splitP (c :: r)) = joinP (s ++ [c]) (splitP r) := by
  have e : splitP (c :: r) = (c :: (splitP r).headD []) :: (splitP r).tail := by rw [splitP, if_neg h]
  rw [e]; simp [joinP]
theorem splitP_len : ∀ (l : List Nat), (splitP l).length ≤ l.length + 1
  | [] => by simp [splitP]
  | c :: r => by
    have ih := splitP_len r
    unfold splitP
    split
    · simp; omega
    · simp [List.length_tail]; omega
theorem splitP_mem : ∀ (l : List Nat) (p : List Nat), p ∈ splitP l → ∀ x ∈ p, x ∈ l
  | [], p, h, x, hx => by simp [splitP] at h; subst h; exact hx
  | c :: r, p, h, x, hx => by
    unfold splitP at h
    split at h
    · rcases List.mem_cons.1 h with rfl | h
      · simp at hx
      · exact List.mem_cons_of_mem _ (splitP_mem r p h x hx)
    · rcases List.mem_cons.1 h with rfl | h
      · rcases List.mem_cons.1 hx with rfl | hx
        · simp
        · refine List.mem_cons_of_mem _ (splitP_mem r ((splitP r).headD []) ?_ x hx)
          rw [splitP_ht r]; simp
      · exact List.mem_cons_of_mem _ (splitP_mem r p (List.mem_of_mem_tail h) x hx)
theorem splitP_plen : ∀ (l : List Nat) (p : List Nat), p ∈ splitP l → p.length ≤ l.length
  | [], p, h => by simp [splitP] at h; subst h; exact Nat.le_refl _
  | c :: r, p, h => by
    unfold splitP at h
    split at h
    · rcases List.mem_cons.1 h with rfl | h
      · exact Nat.zero_le _
      · have := splitP_plen r p h; simp; omega
    · rcases List.mem_cons.1 h with rfl | h
      · have := splitP_plen r ((splitP r).headD []) (by rw [splitP_ht r]; simp); simp at *; omega
      · have := splitP_plen r p (List.mem_of_mem_tail h); simp; omega
/-- ".swingle". -/
def resP : List Nat := [46, 115, 119, 105, 110, 103, 108, 101]
/-- Which paths may be. -/
def rightP (l : List Nat) : Bool := decide (l.length ≤ 200) && decide ((splitP l).headD [] ≠ resP) && decide ((splitP l).length ≤ 12) && (splitP l).all partOk
theorem rightP_long {l : List Nat} (h : 200 < l.length) : rightP l = false := by unfold rightP; rw [decide_eq_false (by omega)]; rfl
theorem rightP_res {l : List Nat} (h : (splitP l).headD [] = resP) : rightP l = false := by unfold rightP; rw [h]; simp
theorem rightP_many {l : List Nat} (h : 12 < (splitP l).length) : rightP l = false := by unfold rightP; rw [decide_eq_false (by omega : ¬ (splitP l).length ≤ 12)]; simp
theorem rightP_bad {l p : List Nat} (h : p ∈ splitP l) (hp : partOk p = false) : rightP l = false := by
  unfold rightP
  have : (splitP l).all partOk = false := by rw [List.all_eq_false]; exact ⟨p, h, by simp [hp]⟩
  rw [this]; simp
theorem rightP_yes {l : List Nat} (h1 : l.length ≤ 200) (h2 : (splitP l).headD [] ≠ resP) (h3 : (splitP l).length ≤ 12) (h4 : ∀ p ∈ splitP l, partOk p = true) : rightP l = true := by
  unfold rightP
  rw [decide_eq_true h1, decide_eq_true h2, decide_eq_true h3, List.all_eq_true.2 h4]; rfl
theorem rightP_len {l : List Nat} (h : rightP l = true) : l.length ≤ 200 := by
  unfold rightP at h; simp only [Bool.and_eq_true, decide_eq_true_eq] at h; exact h.1.1.1
theorem rightP_part {l : List Nat} (h : rightP l = true) : ∀ p ∈ splitP l, partOk p = true := by
  unfold rightP at h; simp only [Bool.and_eq_true] at h; exact List.all_eq_true.1 h.2
end Go.Proofs.YtibmhadnfggmlaaDoor
namespace Go.Proofs.YtibmhadnfggmlaaDoor
set_option linter.unusedVariables false
set_option linter.unusedSimpArgs false
set_option linter.unusedSectionVars false
open Go.RowKit Go.Shelf
attribute [local go_sem] Oper.semAt_some
set_option linter.unusedVariables false

/-- How many bytes stand ahead of the first slash. -/
def firstS (l : List Nat) : Nat := (l.takeWhile (fun c => decide (c ≠ 47))).length
theorem firstS_le (l : List Nat) : firstS l ≤ l.length := (List.takeWhile_prefix _).length_le
theorem firstS_cons (c : Nat) (r : List Nat) : firstS (c :: r) = if c = 47 then 0 else firstS r + 1 := by
  unfold firstS
  rw [List.takeWhile_cons]
  by_cases h : c = 47 <;> simp [h]
theorem splitP_first : ∀ (l : List Nat), firstS l < l.length → splitP l = l.take (firstS l) :: splitP (l.drop (firstS l + 1))
  | [], h => by simp at h
  | c :: r, h => by
    rw [firstS_cons] at h ⊢
    by_cases e : c = 47
    · subst e; simp [splitP]
    · rw [if_neg e] at h ⊢
      have ih := splitP_first r (by rw [List.length_cons] at h; omega)
      have e2 : splitP (c :: r) = (c :: (splitP r).headD []) :: (splitP r).tail := by rw [splitP, if_neg e]
      rw [e2, ih]
      simp
theorem splitP_last : ∀ (l : List Nat), ¬ firstS l < l.length → splitP l = [l]
  | [], _ => rfl
  | c :: r, h => by
    rw [firstS_cons] at h
    by_cases e : c = 47
    · rw [if_pos e] at h; simp at h
    · rw [if_neg e] at h
      have ih := splitP_last r (by rw [List.length_cons] at h; omega)
      have e2 : splitP (c :: r) = (c :: (splitP r).headD []) :: (splitP r).tail := by rw [splitP, if_neg e]
      rw [e2, ih]
      simp
theorem splitP_headT (l : List Nat) : (splitP l).headD [] = l.take (firstS l) := by
  by_cases h : firstS l < l.length
  · rw [splitP_first l h]; rfl
  · rw [splitP_last l h, List.headD_cons, List.take_of_length_le (by omega)]
theorem indexByte_slash (L : List UInt8) : Lib.indexByte L 47 = if firstS (L.map UInt8.toNat) < L.length then (firstS (L.map UInt8.toNat) : Int) else -1 := by
  induction L with
  | nil => rfl
  | cons b l ih =>
    have hb : (b == 47) = decide (b.toNat = 47) := by
      rw [Bool.eq_iff_iff]; simp [← UInt8.toNat_inj]
    rw [List.map_cons, firstS_cons, Lib.indexByte, hb, ih]
    by_cases e : b.toNat = 47
    · simp [e]
    · rw [if_neg (by simp [e]), if_neg e]
      by_cases h : firstS (l.map UInt8.toNat) < l.length
      · have h1 : (((firstS (l.map UInt8.toNat) : Nat) : Int) == -1) = false := by rw [beq_eq_false_iff_ne]; omega
        rw [if_pos h, h1, if_pos (show firstS (l.map UInt8.toNat) + 1 < (b :: l).length by rw [List.length_cons]; omega)]; simp
      · rw [if_neg h, if_neg (show ¬ firstS (l.map UInt8.toNat) + 1 < (b :: l).length by rw [List.length_cons]; omega)]; rfl
set_option maxRecDepth 100000 in
theorem sliteByte_slash (s : ByteArray) (w : World) : Calls Tryd.prog 136 #[.string s, .int .u8 47] w fun e w' => e = .returned (.int .i64 (Lib.indexByte s.data.toList 47)) ∧ w = w' := by
  go_enter Tryd.func136, Tryd.ntmps136
  go_wp2
  rw [run_callFunc_extern Tryd.func156 (by kernel_rfl) (by kernel_rfl) (by kernel_rfl) (e := Extern.BytealgIndexByte.indexByte) (by kernel_rfl), Lib.run_indexByteString]
  simp only [Result.andThen]
  rw [Oper.upon_value]
  go_wp2
  go_ret
  exact ⟨rfl, rfl⟩
def slashB : ByteArray := { data := #[47] }
set_option maxRecDepth 100000 in
theorem slite_slash (s : ByteArray) (w : World) : Calls Tryd.prog 155 #[.string s, .string { data := #[47] }] w fun e w' => e = .returned (.int .i64 (Lib.indexByte s.data.toList 47)) ∧ w = w' := by
  cases hq : ([47] == s.toList) with
  | true =>
    have e1 : s.toList = [47] := (beq_iff_eq.1 hq).symm
    have HZ := Lib.hid (show Lib.indexByte s.data.toList 47 = 0 from by rw [ByteArray.toList_eq] at e1; rw [e1]; rfl)
    clear e1
    go_enter Tryd.func155, Tryd.ntmps155
    go_wp2
    go_ret
    exact ⟨by rw [HZ.out]; rfl, rfl⟩
  | false =>
    go_enter Tryd.func155, Tryd.ntmps155
    go_wp2_with (go_at_call 136; refine (sliteByte_slash _ _).mono ?_; rintro e w' ⟨rfl, rfl⟩)
    go_ret
    exact ⟨rfl, rfl⟩
theorem index_slash (s : ByteArray) (w : World) : Calls Tryd.prog 135 #[.string s, .string { data := #[47] }] w fun e w' => e = .returned (.int .i64 (Lib.indexByte s.data.toList 47)) ∧ w = w' := by
  go_enter Tryd.func135, Tryd.ntmps135
  go_wp2_with (go_at_call 155; refine (slite_slash _ _).mono ?_; rintro e w' ⟨rfl, rfl⟩)
  go_ret
  exact ⟨rfl, rfl⟩
theorem sindex_yes (s : ByteArray) (w : World) (h : firstS (bytesOf s) < s.size) : Calls Tryd.prog 155 #[.string s, .string { data := #[47] }] w fun e w' => e = .returned (.int .i64 (firstS (bytesOf s) : Nat)) ∧ w = w' :=
  (slite_slash s w).mono fun e w' ⟨h1, h2⟩ => ⟨by rw [h1, indexByte_slash]; unfold bytesOf at h ⊢; rw [if_pos (by exact h)], h2⟩
theorem sindex_no (s : ByteArray) (w : World) (h : ¬ firstS (bytesOf s) < s.size) : Calls Tryd.prog 155 #[.string s, .string { data := #[47] }] w fun e w' => e = .returned (.int .i64 (-1)) ∧ w = w' :=
  (slite_slash s w).mono fun e w' ⟨h1, h2⟩ => ⟨by rw [h1, indexByte_slash]; unfold bytesOf at h; rw [if_neg (by exact h)], h2⟩
theorem index_yes (s : ByteArray) (w : World) (h : firstS (bytesOf s) < s.size) : Calls Tryd.prog 135 #[.string s, .string { data := #[47] }] w fun e w' => e = .returned (.int .i64 (firstS (bytesOf s) : Nat)) ∧ w = w' :=
  (index_slash s w).mono fun e w' ⟨h1, h2⟩ => ⟨by rw [h1, indexByte_slash]; unfold bytesOf at h ⊢; rw [if_pos (by exact h)], h2⟩
theorem index_no (s : ByteArray) (w : World) (h : ¬ firstS (bytesOf s) < s.size) : Calls Tryd.prog 135 #[.string s, .string { data := #[47] }] w fun e w' => e = .returned (.int .i64 (-1)) ∧ w = w' :=
  (index_slash s w).mono fun e w' ⟨h1, h2⟩ => ⟨by rw [h1, indexByte_slash]; unfold bytesOf at h; rw [if_neg (by exact h)], h2⟩
theorem bytesOf_extract (s : ByteArray) (a b : Nat) : bytesOf (s.extract a b) = ((bytesOf s).drop a).take (b - a) := by
  simp [bytesOf, ByteArray.data_extract, List.map_take, List.map_drop]
theorem strOf_take (s : ByteArray) (n : Nat) : s.extract 0 n = strOf ((bytesOf s).take n) := by
  rw [← strOf_bytesOf (s.extract 0 n), bytesOf_extract]; simp
theorem strOf_drop (s : ByteArray) (n : Nat) : s.extract n s.size = strOf ((bytesOf s).drop n) := by
  rw [← strOf_bytesOf (s.extract n s.size), bytesOf_extract, List.take_of_length_le (by rw [List.length_drop, length_bytesOf]; omega)]
set_option maxRecDepth 100000 in
theorem cutL_any (s : ByteArray) (w : World) (hs : s.size ≤ 9223372036854775807) : Calls Tryd.prog 146 #[.string s, .string { data := #[47] }] w fun e w' => (∃ r b, e = .returned (.tuple #[.string (strOf ((splitP (bytesOf s)).headD [])), .string r, .bool b])) ∧ Upd [] w w' := by
  have HT := Lib.hid (splitP_headT (bytesOf s))
  have hl := length_bytesOf s
  have h0 := firstS_le (bytesOf s)
  by_cases h : firstS (bytesOf s) < s.size
  · have HY := Lib.hid (fun w => sindex_yes s w h)
    have HE := Lib.hid (strOf_take s (firstS (bytesOf s)))
    generalize firstS (bytesOf s) = f at *
    clear hl h0
    go_enter Tryd.func146, Tryd.ntmps146
    go_wp2_with (go_at_call 155; refine (HY.out _).mono ?_; rintro e w' ⟨rfl, rfl⟩)
    go_quiet (fail)
    go_wp2
    go_ret3
    exact ⟨⟨s.extract (f + 1) s.size, true, by rw [HT.out, ← HE.out]; rfl⟩, (Upd.refl _ _).drewN _⟩
  · have HY := Lib.hid (fun w => sindex_no s w h)
    have HE := Lib.hid (strOf_take s (firstS (bytesOf s)))
    have e1 : (bytesOf s).take (firstS (bytesOf s)) = bytesOf s := List.take_of_length_le (by omega)
    rw [e1] at HT
    clear hl h0 HE e1 h
    go_enter Tryd.func146, Tryd.ntmps146
    go_wp2_with (go_at_call 155; refine (HY.out _).mono ?_; rintro e w' ⟨rfl, rfl⟩)
    go_ret3
    exact ⟨⟨{ data := #[] }, false, by rw [HT.out, strOf_bytesOf]; rfl⟩, Upd.refl _ _⟩
theorem cut_any (s : ByteArray) (w : World) (hs : s.size ≤ 9223372036854775807) : Calls Tryd.prog 120 #[.string s, .string { data := #[47] }] w fun e w' => (∃ r b, e = .returned (.tuple #[.string (strOf ((splitP (bytesOf s)).headD [])), .string r, .bool b])) ∧ Upd [] w w' := by
  have HC := Lib.hid (fun w => cutL_any s w hs)
  generalize (splitP (bytesOf s)).headD [] = hd at *
  go_enter Tryd.func120, Tryd.ntmps120
  go_wp2_with (go_at_call 146; refine (HC.out _).mono ?_; rintro e w' ⟨⟨r, b, rfl⟩, hU⟩)
  go_ret3
  exact ⟨⟨r, b, rfl⟩, hU⟩
end Go.Proofs.YtibmhadnfggmlaaDoor
namespace Go.Proofs.YtibmhadnfggmlaaDoor
set_option linter.unusedVariables false
set_option linter.unusedSimpArgs false
set_option linter.unusedSectionVars false
open Go.RowKit
set_option linter.unusedVariables false

theorem tailOk_iff : ∀ (m : Nat) (lo hi : Nat) (l : List Nat), tailOk lo hi m l = true ↔ m ≤ l.length ∧ ∀ i x, i < m → l[i]? = some x → (if i = 0 then lo else 128) ≤ x ∧ x ≤ (if i = 0 then hi else 191)
  | 0, lo, hi, l => by simp [tailOk]
  | m + 1, lo, hi, [] => by simp [tailOk]
  | m + 1, lo, hi, b :: r => by
    simp only [tailOk, Bool.and_eq_true, decide_eq_true_eq, tailOk_iff m 128 191 r, List.length_cons]
    constructor
    · rintro ⟨⟨h1, h2⟩, h3, h4⟩
      refine ⟨by omega, fun i x hi hx => ?_⟩
      cases i with
      | zero => simp at hx; subst hx; exact ⟨h1, h2⟩
      | succ i =>
        have := h4 i x (by omega) (by simpa using hx)
        rw [if_neg (by omega), if_neg (by omega)]
        split at this <;> exact this
    · rintro ⟨h1, h2⟩
      refine ⟨by simpa using h2 0 b (by omega) (by simp), by omega, fun i x hi hx => ?_⟩
      have := h2 (i + 1) x (by omega) (by simpa using hx)
      rw [if_neg (by omega), if_neg (by omega)] at this
      split <;> exact this
section
variable {L : List Nat} {c n lo hi : Nat}
theorem utf_split (h0 : L[0]? = some c) (hp : letterP c = (n, lo, hi)) : utfP L = (decide (n ≠ 0) && tailOk lo hi (n - 1) L.tail && utfP (L.drop n)) ∨ n = 0 := by
  cases L with
  | nil => simp at h0
  | cons b r =>
    simp at h0; subst h0
    by_cases e : n = 0
    · exact .inr e
    · left
      rw [utfP_cons, hp]
      obtain ⟨m, rfl⟩ : ∃ m, n = m + 1 := ⟨n - 1, by omega⟩
      simp
theorem utf_zero (h0 : L[0]? = some c) (hp : letterP c = (0, lo, hi)) : utfP L = false := by
  cases L with
  | nil => simp at h0
  | cons b r =>
    simp at h0; subst h0
    rw [utfP_cons, hp]; simp
theorem utf_no (h0 : L[0]? = some c) (hp : letterP c = (n, lo, hi)) (h : tailOk lo hi (n - 1) L.tail = false) : utfP L = false := by
  rcases utf_split h0 hp with e | e
  · rw [e, h]; simp
  · subst e; exact utf_zero h0 hp
theorem utf_long (h0 : L[0]? = some c) (hp : letterP c = (n, lo, hi)) (h : L.length < n) : utfP L = false := by
  refine utf_no h0 hp ?_
  cases ht : tailOk lo hi (n - 1) L.tail with
  | false => rfl
  | true =>
    have := ((tailOk_iff _ _ _ _).1 ht).1
    have : 0 < L.length := by cases L with
      | nil => simp at h0
      | cons => simp
    simp at *; omega
theorem utf_bad (h0 : L[0]? = some c) (hp : letterP c = (n, lo, hi)) {i x : Nat} (hi1 : 1 ≤ i) (hin : i < n) (hx : L[i]? = some x) (h : ¬ ((if i = 1 then lo else 128) ≤ x ∧ x ≤ (if i = 1 then hi else 191))) : utfP L = false := by
  refine utf_no h0 hp ?_
  cases ht : tailOk lo hi (n - 1) L.tail with
  | false => rfl
  | true =>
    exfalso; apply h
    have := ((tailOk_iff _ _ _ _).1 ht).2 (i - 1) x (by omega) (by rw [List.getElem?_tail]; rw [show i - 1 + 1 = i by omega]; exact hx)
    by_cases e : i = 1
    · subst e; simpa using this
    · rw [if_neg (by omega), if_neg (by omega)] at this; rw [if_neg e, if_neg e]; exact this
theorem utf_yes (h0 : L[0]? = some c) (hp : letterP c = (n, lo, hi)) (hn : 1 ≤ n) (hl : n ≤ L.length) (h : ∀ i x, 1 ≤ i → i < n → L[i]? = some x → (if i = 1 then lo else 128) ≤ x ∧ x ≤ (if i = 1 then hi else 191)) : utfP L = utfP (L.drop n) := by
  rcases utf_split h0 hp with e | e
  · have ht : tailOk lo hi (n - 1) L.tail = true := by
      refine (tailOk_iff _ _ _ _).2 ⟨by simp; omega, fun i x hi hx => ?_⟩
      have := h (i + 1) x (by omega) (by omega) (by rw [List.getElem?_tail] at hx; exact hx)
      by_cases e : i = 0
      · subst e; simpa using this
      · rw [if_neg (by omega), if_neg (by omega)] at this; rw [if_neg e, if_neg e]; exact this
    rw [e, ht, decide_eq_true (by omega)]; simp
  · omega
end
theorem bytesOf_get? (s : ByteArray) (i : Nat) (h : i < s.size) : (bytesOf s)[i]? = some s[i].toNat := by
  rw [List.getElem?_eq_getElem (by rw [length_bytesOf]; exact h), bytesOf_get s i h]
theorem bytesOf_drop (s : ByteArray) (n : Nat) : bytesOf (s.extract n s.size) = (bytesOf s).drop n := by
  rw [bytesOf_extract, List.take_of_length_le (by rw [List.length_drop, length_bytesOf]; omega)]

theorem toList_nil (r : ByteArray) (h : r.size = 0) : r.toList = [] := by
  rw [ByteArray.toList_eq]; exact List.eq_nil_of_length_eq_zero (by rw [Array.length_toList]; exact h)
theorem toList_some (r : ByteArray) (h : 0 < r.size) : (!r.toList.isEmpty) = true := by
  rw [ByteArray.toList_eq]
  cases hh : r.data.toList with
  | nil =>
    exfalso
    have h1 : r.data.toList.length = r.size := by rw [Array.length_toList]; rfl
    rw [hh] at h1; simp at h1; omega
  | cons => rfl
set_option maxRecDepth 100000 in
set_option maxHeartbeats 4000000 in
theorem letters_any (s : ByteArray) (w : World) (hs : s.size ≤ 9223372036854775807) : Calls Tryd.prog 148 #[.string s] w fun e w' => e = .returned (.bool (utfP (bytesOf s))) ∧ w = w' := by
  go_enter Tryd.func148, Tryd.ntmps148
  go_wp2
  go_loopg [0] s.size (fun g t wr => ∃ r : ByteArray, t = .string r ∧ g = r.size ∧ r.size ≤ s.size ∧ Hid (utfP (bytesOf s) = utfP (bytesOf r)) ∧ w = wr)
  case atStart => exact ⟨s, rfl, rfl, Nat.le_refl _, Lib.hid rfl, rfl⟩
  case round =>
    obtain ⟨r, rfl, rfl, hrs, HU, rfl⟩ := hrel
    by_cases hz : r.size = 0
    · have hE : utfP (bytesOf r) = true := by
        have e0 : bytesOf r = [] := List.eq_nil_of_length_eq_zero (by rw [length_bytesOf]; exact hz)
        rw [e0]; rfl
      have HE := Lib.hid (HU.out.trans hE)
      have e2 : (!r.toList.isEmpty) = false := by rw [toList_nil r hz]; rfl
      clear hE HU hz
      go_wp2
      go_ret
      exact ⟨by rw [HE.out]; rfl, rfl⟩
    · have hpos : 0 < r.size := by omega
      have hr1 : r.size ≤ 9223372036854775807 := by omega
      have e2 : (!r.toList.isEmpty) = true := toList_some r hpos
      have HL := Lib.hid (fun w => letter_any r w hpos hr1)
      have hg0 := bytesOf_get? r 0 hpos
      have hle := letterP_le r[0].toNat
      obtain ⟨⟨n, lo, hi⟩, hp⟩ : ∃ p, letterP r[0].toNat = p := ⟨_, rfl⟩
      rw [hp] at HL hle
      have HP := Lib.hid hp
      have HG := Lib.hid hg0
      unfold letV at HL
      dsimp only at HL hle
      clear hz hp hg0
      by_cases c0 : n = 0
      · subst c0
        have HE := Lib.hid (HU.out.trans (utf_zero HG.out HP.out))
        clear HU HG HP hrs
        go_wp2_with (go_at_call 160; refine (HL.out _).mono ?_; rintro e w' ⟨rfl, rfl⟩)
        go_ret
        exact ⟨by rw [HE.out]; rfl, rfl⟩
      · have t0 : ((n : Int) == 0) = false := by rw [beq_eq_false_iff_ne]; omega
        by_cases c1 : r.size < n
        · have HE := Lib.hid (HU.out.trans (utf_long HG.out HP.out (by rw [length_bytesOf]; exact c1)))
          clear HU HG HP hrs
          go_wp2_with (go_at_call 160; refine (HL.out _).mono ?_; rintro e w' ⟨rfl, rfl⟩)
          go_ret
          exact ⟨by rw [HE.out]; rfl, rfl⟩
        · have hn1 : 1 ≤ n := by omega
          have hnr : n ≤ r.size := by omega
          have t1 : decide (r.size < n) = false := decide_eq_false c1
          by_cases c2 : 2 ≤ n
          · have h1r : 1 < r.size := by omega
            have HG1 := Lib.hid (bytesOf_get? r 1 h1r)
            have t2 : decide (1 < n) = true := decide_eq_true (by omega)
            by_cases c3 : lo ≤ r[1].toNat ∧ r[1].toNat ≤ hi
            · have HS2 : Hid (∀ x, 1 < n → (bytesOf r)[1]? = some x → lo ≤ x ∧ x ≤ hi) := Lib.hid (fun x _ h => by rw [HG1.out] at h; simp at h; subst h; exact c3)
              have t3 : decide (r[1].toNat < lo) = false := decide_eq_false (by omega)
              have t4 : decide (hi < r[1].toNat) = false := decide_eq_false (by omega)
              clear c3 HG1
              go_wp2_with (go_at_call 160; refine (HL.out _).mono ?_; rintro e w' ⟨rfl, rfl⟩)
              clear HL
              go_loopg [6] (n - 2) (fun g t wr => ∃ j : Nat, t = .int .i64 (j : Nat) ∧ 2 ≤ j ∧ j ≤ n + 1 ∧ g = n - j ∧ Hid (∀ i x, 2 ≤ i → i < j → (bytesOf r)[i]? = some x → 128 ≤ x ∧ x ≤ 191) ∧ w = wr)
              case atStart => exact ⟨2, rfl, Nat.le_refl _, by omega, rfl, Lib.hid (fun i x h1 h2 => by omega), rfl⟩
              case round =>
                obtain ⟨j, rfl, hj2, hjn, rfl, HA, rfl⟩ := hrel
                by_cases cj : j < n
                · have hjr : j < r.size := by omega
                  have HGJ := Lib.hid (bytesOf_get? r j hjr)
                  by_cases cb : 128 ≤ r[j].toNat ∧ r[j].toNat ≤ 191
                  · have t5 : decide ((r[j].toNat : Int) < 128) = false := decide_eq_false (by omega)
                    have t6 : decide (191 < (r[j].toNat : Int)) = false := decide_eq_false (by omega)
                    have HA2 : Hid (∀ i x, 2 ≤ i → i < j + 1 → (bytesOf r)[i]? = some x → 128 ≤ x ∧ x ≤ 191) := Lib.hid (fun i x h1 h2 h3 => by
                      by_cases e : i = j
                      · subst e; rw [HGJ.out] at h3; simp at h3; omega
                      · exact HA.out i x h1 (by omega) h3)
                    clear HA HGJ cb
                    go_wp2
                    go_roundg (n - (j + 1))
                    all_goals first
                      | omega
                      | exact ⟨j + 1, by go_num, by omega, by omega, rfl, HA2, rfl⟩
                  · have HE := Lib.hid (HU.out.trans (utf_bad HG.out HP.out (i := j) (by omega) (by omega) HGJ.out (by rw [if_neg (by omega), if_neg (by omega)]; exact cb)))
                    clear HA HGJ HU HG HP HS2
                    by_cases cl : r[j].toNat < 128
                    · have t5 : decide ((r[j].toNat : Int) < 128) = true := decide_eq_true (by omega)
                      clear cb
                      go_wp2
                      go_ret
                      exact ⟨by rw [HE.out]; rfl, rfl⟩
                    · have t5 : decide ((r[j].toNat : Int) < 128) = false := decide_eq_false (by omega)
                      have t6 : decide (191 < (r[j].toNat : Int)) = true := decide_eq_true (by omega)
                      clear cb
                      go_wp2
                      go_ret
                      exact ⟨by rw [HE.out]; rfl, rfl⟩
                · have hlen := length_bytesOf r
                  have HE := Lib.hid (HU.out.trans (utf_yes HG.out HP.out hn1 (by omega) (fun i x h1 h2 h3 => by
                    by_cases e : i = 1
                    · subst e; rw [if_pos rfl, if_pos rfl]; exact HS2.out x (by omega) h3
                    · rw [if_neg e, if_neg e]; exact HA.out i x (by omega) (by omega) h3)))
                  have HSZ : Hid ((r.extract n r.size).size = r.size - n) := Lib.hid (by rw [ByteArray.size_extract]; omega)
                  rw [← bytesOf_drop] at HE
                  clear HA HU HG HP HS2 hlen
                  go_wp2
                  go_roundg (r.size - n)
                  all_goals first
                    | omega
                    | exact ⟨r.extract n r.size, rfl, HSZ.out.symm, by rw [HSZ.out]; omega, HE, rfl⟩
            · have HE := Lib.hid (HU.out.trans (utf_bad HG.out HP.out (i := 1) (by omega) (by omega) HG1.out (by simpa using c3)))
              clear HU HG HP HG1 hrs
              by_cases c4 : r[1].toNat < lo
              · have t3 : decide (r[1].toNat < lo) = true := decide_eq_true c4
                clear c3
                go_wp2_with (go_at_call 160; refine (HL.out _).mono ?_; rintro e w' ⟨rfl, rfl⟩)
                go_ret
                exact ⟨by rw [HE.out]; rfl, rfl⟩
              · have t3 : decide (r[1].toNat < lo) = false := decide_eq_false c4
                have t4 : decide (hi < r[1].toNat) = true := decide_eq_true (by omega)
                clear c3
                go_wp2_with (go_at_call 160; refine (HL.out _).mono ?_; rintro e w' ⟨rfl, rfl⟩)
                go_ret
                exact ⟨by rw [HE.out]; rfl, rfl⟩
          · have t2 : decide (1 < n) = false := decide_eq_false (by omega)
            have HS2 : Hid (∀ x, 1 < n → (bytesOf r)[1]? = some x → lo ≤ x ∧ x ≤ hi) := Lib.hid (fun x h _ => by omega)
            go_wp2_with (go_at_call 160; refine (HL.out _).mono ?_; rintro e w' ⟨rfl, rfl⟩)
            clear HL
            go_loopg [6] (n - 2) (fun g t wr => ∃ j : Nat, t = .int .i64 (j : Nat) ∧ 2 ≤ j ∧ j ≤ n + 1 ∧ g = n - j ∧ Hid (∀ i x, 2 ≤ i → i < j → (bytesOf r)[i]? = some x → 128 ≤ x ∧ x ≤ 191) ∧ w = wr)
            case atStart => exact ⟨2, rfl, Nat.le_refl _, by omega, rfl, Lib.hid (fun i x h1 h2 => by omega), rfl⟩
            case round =>
              obtain ⟨j, rfl, hj2, hjn, rfl, HA, rfl⟩ := hrel
              by_cases cj : j < n
              · have hjr : j < r.size := by omega
                have HGJ := Lib.hid (bytesOf_get? r j hjr)
                by_cases cb : 128 ≤ r[j].toNat ∧ r[j].toNat ≤ 191
                · have t5 : decide ((r[j].toNat : Int) < 128) = false := decide_eq_false (by omega)
                  have t6 : decide (191 < (r[j].toNat : Int)) = false := decide_eq_false (by omega)
                  have HA2 : Hid (∀ i x, 2 ≤ i → i < j + 1 → (bytesOf r)[i]? = some x → 128 ≤ x ∧ x ≤ 191) := Lib.hid (fun i x h1 h2 h3 => by
                    by_cases e : i = j
                    · subst e; rw [HGJ.out] at h3; simp at h3; omega
                    · exact HA.out i x h1 (by omega) h3)
                  clear HA HGJ cb
                  go_wp2
                  go_roundg (n - (j + 1))
                  all_goals first
                    | omega
                    | exact ⟨j + 1, by go_num, by omega, by omega, rfl, HA2, rfl⟩
                · have HE := Lib.hid (HU.out.trans (utf_bad HG.out HP.out (i := j) (by omega) (by omega) HGJ.out (by rw [if_neg (by omega), if_neg (by omega)]; exact cb)))
                  clear HA HGJ HU HG HP HS2
                  by_cases cl : r[j].toNat < 128
                  · have t5 : decide ((r[j].toNat : Int) < 128) = true := decide_eq_true (by omega)
                    clear cb
                    go_wp2
                    go_ret
                    exact ⟨by rw [HE.out]; rfl, rfl⟩
                  · have t5 : decide ((r[j].toNat : Int) < 128) = false := decide_eq_false (by omega)
                    have t6 : decide (191 < (r[j].toNat : Int)) = true := decide_eq_true (by omega)
                    clear cb
                    go_wp2
                    go_ret
                    exact ⟨by rw [HE.out]; rfl, rfl⟩
              · have hlen := length_bytesOf r
                have HE := Lib.hid (HU.out.trans (utf_yes HG.out HP.out hn1 (by omega) (fun i x h1 h2 h3 => by
                  by_cases e : i = 1
                  · subst e; rw [if_pos rfl, if_pos rfl]; exact HS2.out x (by omega) h3
                  · rw [if_neg e, if_neg e]; exact HA.out i x (by omega) (by omega) h3)))
                have HSZ : Hid ((r.extract n r.size).size = r.size - n) := Lib.hid (by rw [ByteArray.size_extract]; omega)
                rw [← bytesOf_drop] at HE
                clear HA HU HG HP HS2 hlen
                go_wp2
                go_roundg (r.size - n)
                all_goals first
                  | omega
                  | exact ⟨r.extract n r.size, rfl, HSZ.out.symm, by rw [HSZ.out]; omega, HE, rfl⟩
end Go.Proofs.YtibmhadnfggmlaaDoor
namespace Go.Proofs.YtibmhadnfggmlaaDoor
set_option linter.unusedVariables false
set_option linter.unusedSimpArgs false
set_option linter.unusedSectionVars false
open Go.RowKit
set_option linter.unusedVariables false

/-- A byte that no part may have. -/
def badC (c : Nat) : Bool := decide (c < 32) || decide (c = 127) || decide (c = 47) || decide (c = 92) || decide (c = 58)
theorem partOk_bad {l : List Nat} {i c : Nat} (h : l[i]? = some c) (hb : badC c = true) : partOk l = false := by
  have hm : c ∈ l := List.mem_of_getElem? h
  have : l.all (fun c => !(decide (c < 32) || decide (c = 127) || decide (c = 47) || decide (c = 92) || decide (c = 58))) = false := by
    rw [List.all_eq_false]
    exact ⟨c, hm, by unfold badC at hb; simp only [hb]; simp⟩
  unfold partOk; rw [this]; rfl
theorem partOk_eq {l : List Nat} (h : ∀ (i c : Nat), l[i]? = some c → badC c = false) : partOk l = (decide (1 ≤ l.length) && decide (l.length ≤ 60) && decide (l ≠ [46]) && decide (l ≠ [46, 46]) && utfP l) := by
  have : l.all (fun c => !(decide (c < 32) || decide (c = 127) || decide (c = 47) || decide (c = 92) || decide (c = 58))) = true := by
    rw [List.all_eq_true]
    intro c hc
    obtain ⟨i, hi⟩ := List.getElem?_of_mem hc
    have := h i c hi
    unfold badC at this
    simp only [this]; rfl
  unfold partOk; rw [this]; simp
theorem toList_bytes (s : ByteArray) (l : List UInt8) : (s.toList == l) = decide (bytesOf s = l.map UInt8.toNat) := by
  rw [Bool.eq_iff_iff, beq_iff_eq, decide_eq_true_eq, ByteArray.toList_eq]
  constructor
  · intro h; unfold bytesOf; rw [h]
  · intro h
    unfold bytesOf at h
    have hi : Function.Injective UInt8.toNat := fun a b e => UInt8.toNat_inj.1 e
    exact (List.map_inj_right (fun a b e => hi e)).1 h
theorem ne_dot (s : ByteArray) : (s.toList == [46]) = decide (bytesOf s = [46]) := toList_bytes s [46]
theorem ne_dots (s : ByteArray) : (s.toList == [46, 46]) = decide (bytesOf s = [46, 46]) := toList_bytes s [46, 46]
set_option maxRecDepth 100000 in
set_option maxHeartbeats 4000000 in
theorem part_any (s : ByteArray) (w : World) (hs : s.size ≤ 9223372036854775807) : Calls Tryd.prog 122 #[.string s] w fun e w' => e = .returned (.bool (partOk (bytesOf s))) ∧ w = w' := by
  go_enter Tryd.func122, Tryd.ntmps122
  go_wp2
  go_loopg [7] s.size (fun g t wr => ∃ k : Nat, k ≤ s.size ∧ t = .int .i64 (k : Nat) ∧ g = s.size - k ∧ Hid (∀ i c : Nat, i < k → (bytesOf s)[i]? = some c → badC c = false) ∧ w = wr)
  case atStart => exact ⟨0, Nat.zero_le _, rfl, rfl, Lib.hid (fun i c h => by omega), rfl⟩
  case round =>
    obtain ⟨k, hk, rfl, rfl, HA, rfl⟩ := hrel
    by_cases hc : k < s.size
    · have HG := Lib.hid (bytesOf_get? s k hc)
      cases hb : badC s[k].toNat with
      | true =>
        have HE := Lib.hid (partOk_bad HG.out hb)
        unfold badC at hb
        have HB := Lib.hid hb
        clear hb HA HG
        have fin : ∀ b : Bool, b = false → Ending.returned (.bool b) = .returned (.bool (partOk (bytesOf s))) := fun b h => by rw [h, HE.out]
        have FIN := Lib.hid fin
        clear fin
        by_cases c1 : s[k].toNat < 32
        · have t1 : decide ((s[k].toNat : Int) < 32) = true := decide_eq_true (by omega)
          go_wp2
          go_ret
          exact ⟨FIN.out _ rfl, rfl⟩
        · have t1 : decide ((s[k].toNat : Int) < 32) = false := decide_eq_false (by omega)
          by_cases c2 : s[k].toNat = 127
          · have t2 : ((s[k].toNat : Int) == 127) = true := by rw [beq_iff_eq]; omega
            clear c1 c2
            go_wp2
            go_ret
            exact ⟨FIN.out _ rfl, rfl⟩
          · have t2 : ((s[k].toNat : Int) == 127) = false := by rw [beq_eq_false_iff_ne]; omega
            by_cases c3 : s[k].toNat = 47
            · have t3 : ((s[k].toNat : Int) == 47) = true := by rw [beq_iff_eq]; omega
              clear c1 c2 c3
              go_wp2
              go_ret
              exact ⟨FIN.out _ rfl, rfl⟩
            · have t3 : ((s[k].toNat : Int) == 47) = false := by rw [beq_eq_false_iff_ne]; omega
              by_cases c4 : s[k].toNat = 92
              · have t4 : ((s[k].toNat : Int) == 92) = true := by rw [beq_iff_eq]; omega
                clear c1 c2 c3 c4
                go_wp2
                go_ret
                exact ⟨FIN.out _ rfl, rfl⟩
              · have t4 : ((s[k].toNat : Int) == 92) = false := by rw [beq_eq_false_iff_ne]; omega
                have t5 : ((s[k].toNat : Int) == 58) = true := by
                  have := HB.out
                  simp [c1, c2, c3, c4] at this
                  rw [beq_iff_eq]; omega
                clear c1 c2 c3 c4
                go_wp2
                go_ret
                exact ⟨FIN.out _ rfl, rfl⟩
      | false =>
        have HA2 : Hid (∀ i c : Nat, i < k + 1 → (bytesOf s)[i]? = some c → badC c = false) := Lib.hid (fun i c h1 h2 => by
          by_cases e : i = k
          · subst e; rw [HG.out] at h2; simp at h2; subst h2; exact hb
          · exact HA.out i c (by omega) h2)
        unfold badC at hb
        simp only [Bool.or_eq_false_iff, decide_eq_false_iff_not] at hb
        obtain ⟨⟨⟨⟨c1, c2⟩, c3⟩, c4⟩, c5⟩ := hb
        have t1 : decide ((s[k].toNat : Int) < 32) = false := decide_eq_false (by omega)
        have t2 : ((s[k].toNat : Int) == 127) = false := by rw [beq_eq_false_iff_ne]; omega
        have t3 : ((s[k].toNat : Int) == 47) = false := by rw [beq_eq_false_iff_ne]; omega
        have t4 : ((s[k].toNat : Int) == 92) = false := by rw [beq_eq_false_iff_ne]; omega
        have t5 : ((s[k].toNat : Int) == 58) = false := by rw [beq_eq_false_iff_ne]; omega
        clear c1 c2 c3 c4 c5 HA HG
        go_wp2
        go_roundg (s.size - (k + 1))
        all_goals first
          | omega
          | exact ⟨k + 1, by omega, by go_num, rfl, HA2, rfl⟩
    · have hlen := length_bytesOf s
      have HE := Lib.hid (partOk_eq (l := bytesOf s) (fun i c h => HA.out i c (by have := (List.getElem?_eq_some_iff.1 h).1; omega) h))
      rw [hlen] at HE
      obtain rfl : k = s.size := by omega
      have HL := Lib.hid (fun w => letters_any s w hs)
      have HD1 := Lib.hid (ne_dot s)
      have HD2 := Lib.hid (ne_dots s)
      clear hlen HA hc hk
      by_cases c1 : 1 ≤ s.size
      · by_cases c2 : s.size ≤ 60
        · by_cases c3 : bytesOf s = [46]
          · have t3 : (s.toList == [46]) = true := HD1.out.trans (decide_eq_true c3)
            have HZ : Hid (partOk (bytesOf s) = false) := Lib.hid (by rw [HE.out]; simp [c3])
            clear c3
            go_wp2
            go_ret
            exact ⟨by rw [HZ.out]; rfl, rfl⟩
          · have t3 : (s.toList == [46]) = false := HD1.out.trans (decide_eq_false c3)
            by_cases c4 : bytesOf s = [46, 46]
            · have t4 : (s.toList == [46, 46]) = true := HD2.out.trans (decide_eq_true c4)
              have HZ : Hid (partOk (bytesOf s) = false) := Lib.hid (by rw [HE.out]; simp [c4])
              clear c3 c4
              go_wp2
              go_ret
              exact ⟨by rw [HZ.out]; rfl, rfl⟩
            · have t4 : (s.toList == [46, 46]) = false := HD2.out.trans (decide_eq_false c4)
              have HZ : Hid (partOk (bytesOf s) = utfP (bytesOf s)) := Lib.hid (by rw [HE.out, decide_eq_true c1, decide_eq_true c2, decide_eq_true c3, decide_eq_true c4]; simp)
              clear c3 c4
              go_wp2_with (go_at_call 148; refine (HL.out _).mono ?_; rintro e w' ⟨rfl, rfl⟩)
              go_ret
              exact ⟨by rw [HZ.out]; rfl, rfl⟩
        · have HZ : Hid (partOk (bytesOf s) = false) := Lib.hid (by rw [HE.out, decide_eq_false c2]; simp)
          go_wp2
          go_ret
          exact ⟨by rw [HZ.out]; rfl, rfl⟩
      · have HZ : Hid (partOk (bytesOf s) = false) := Lib.hid (by rw [HE.out, decide_eq_false c1]; simp)
        go_wp2
        go_ret
        exact ⟨by rw [HZ.out]; rfl, rfl⟩
end Go.Proofs.YtibmhadnfggmlaaDoor
namespace Go.Proofs.YtibmhadnfggmlaaDoor
set_option linter.unusedVariables false
set_option linter.unusedSimpArgs false
set_option linter.unusedSectionVars false
open Go.RowKit Go.Shelf
attribute [local go_sem] Oper.semAt_some
set_option linter.unusedVariables false

/-- The parts of a path, as strings. -/
def partsS (s : ByteArray) : List ByteArray := (splitP (bytesOf s)).map strOf
theorem partsS_first (s : ByteArray) (h : firstS (bytesOf s) < s.size) : partsS s = s.extract 0 (firstS (bytesOf s)) :: partsS (s.extract (firstS (bytesOf s) + 1) s.size) := by
  unfold partsS
  rw [splitP_first _ (by rw [length_bytesOf]; exact h), List.map_cons, ← strOf_take, bytesOf_extract, List.take_of_length_le (by rw [List.length_drop, length_bytesOf]; omega)]
theorem partsS_last (s : ByteArray) (h : ¬ firstS (bytesOf s) < s.size) : partsS s = [s] := by
  unfold partsS
  rw [splitP_last _ (by rw [length_bytesOf]; exact h), List.map_cons, strOf_bytesOf]; rfl
theorem partsS_len (s : ByteArray) : 0 < (partsS s).length := by
  unfold partsS; rw [List.length_map]; exact List.length_pos_iff.2 (splitP_ne _)
/-- A string, as strings go. -/
abbrev Shs := { x : ByteArray // x.size ≤ 9223372036854775807 }
/-- SplitSeq's iterator, closed over its three boxes. -/
theorem splitSeq_any (s : ByteArray) (w : World) : Calls Tryd.prog 121 #[.string s, .string { data := #[47] }] w fun e w' =>
    e = .returned (.func (.func 159) #[] #[.pointer (some ⟨w.heap.size + 1, 0, none⟩), .pointer (some ⟨w.heap.size, 0, none⟩), .pointer (some ⟨w.heap.size + 2, 0, none⟩)]) ∧
    w' = ((w.alloc (.cells #[.string s] 9)).alloc (.cells #[.string { data := #[47] }] 9)).alloc (.cells #[.int .i64 0] 3) := by
  have h1 : Calls Tryd.prog 147 #[.string s, .string { data := #[47] }, .int .i64 0] w fun e w' =>
      e = .returned (.func (.func 159) #[] #[.pointer (some ⟨w.heap.size + 1, 0, none⟩), .pointer (some ⟨w.heap.size, 0, none⟩), .pointer (some ⟨w.heap.size + 2, 0, none⟩)]) ∧
      w' = ((w.alloc (.cells #[.string s] 9)).alloc (.cells #[.string { data := #[47] }] 9)).alloc (.cells #[.int .i64 0] 3) := by
    go_enter Tryd.func147, Tryd.ntmps147
    go_wp2
    go_ret
    exact ⟨rfl, rfl⟩
  go_enter Tryd.func121, Tryd.ntmps121
  go_wp2_with (go_at_call 147; refine h1.mono ?_; rintro e w' ⟨rfl, rfl⟩)
  go_ret
  exact ⟨rfl, rfl⟩
set_option maxRecDepth 100000 in
set_option maxHeartbeats 2000000 in
theorem split_seq (Bs Bq Bv : Nat) (s : ByteArray) (w : World) (hB : Blk w Bs [.string s] 9) (hQ : Blk w Bq [.string { data := #[47] }] 9) (hV : Blk w Bv [.int .i64 0] 3) (hne : Bq ≠ Bs ∧ Bv ≠ Bs) (hs : s.size ≤ 9223372036854775806) :
    SeqW Tryd.prog 159 #[.pointer (some ⟨Bq, 0, none⟩), .pointer (some ⟨Bs, 0, none⟩), .pointer (some ⟨Bv, 0, none⟩)] (fun x : Shs => #[Value.string x.1]) [Bs] [Bs, Bq, Bv] (fun xs => xs.map Subtype.val = partsS s) (fun pre => pre.map Subtype.val <+: partsS s) (partsS s).length w := by
  intro l J Jx W hU hz hJ hJx hY h0
  have b1 : Blk W Bs [.string s] 9 := hB.upd hU (by simp)
  have b2 : Blk W Bq [.string { data := #[47] }] 9 := hQ.upd hU (by simp)
  have b3 : Blk W Bv [.int .i64 0] 3 := hV.upd hU (by simp)
  have HJ := Lib.hid hJ
  have HY := Lib.hid hY
  have HJ0 := Lib.hid h0
  clear hJ hY h0 hJx hU hz hB hQ hV
  have HB : Hid (Blk W Bs [.string s] 9 ∧ Blk W Bq [.string { data := #[47] }] 9 ∧ Blk W Bv [.int .i64 0] 3) := Lib.hid ⟨b1, b2, b3⟩
  have cq0 := b2.cell 0 rfl
  clear b1 b2 b3
  obtain ⟨hq1, hq2⟩ := hne
  have HN := Lib.hid hq1
  have HN2 := Lib.hid hq2
  clear hq1 hq2
  refine callsIn_of_wp Tryd.func159 rfl trivial ?_ rfl
  simp only [Tryd.ntmps159, List.size_toArray, List.length_cons, List.length_nil, Nat.reduceAdd, Nat.reduceSub, Array.replicate_succ, Array.replicate_zero, List.push_toArray, List.append_toArray, List.nil_append, List.cons_append]
  gi_wp2
  clear cq0
  gi_loopg [] s.size (fun g wr => ∃ r : ByteArray, ∃ pre : List Shs, g = r.size ∧ r.size ≤ s.size ∧ Hid (partsS s = pre.map Subtype.val ++ partsS r) ∧ Hid (J pre wr) ∧ Hid (Blk wr Bs [.string r] 9 ∧ Blk wr Bq [.string { data := #[47] }] 9 ∧ Blk wr Bv [.int .i64 0] 3))
  case atStart => exact ⟨s, [], rfl, Nat.le_refl _, Lib.hid rfl, HJ0, HB⟩
  case round =>
    obtain ⟨r, pre, rfl, hrs, HP, HJp, HBk⟩ := hrel
    clear HB HJ0
    have hr1 : r.size ≤ 9223372036854775806 := by omega
    have c1 := HBk.out.1.cell 0 rfl
    have c2 := HBk.out.2.1.cell 0 rfl
    have c3 := HBk.out.2.2.cell 0 rfl
    have hf1 := HBk.out.1.frz 0
    have hlt : Bs < wr.heap.size := HBk.out.1.lt
    by_cases hc : firstS (bytesOf r) < r.size
    · have HIX := Lib.hid (fun w => index_yes r w hc)
      have HPF := Lib.hid (partsS_first r hc)
      generalize firstS (bytesOf r) = f at *
      have hlen : pre.length < (partsS s).length := by rw [HP.out, HPF.out, List.length_append, List.length_map, List.length_cons]; omega
      have hxf0 : (r.extract 0 f).size ≤ 9223372036854775807 := by rw [ByteArray.size_extract]; omega
      obtain ⟨fn, tmps, assign, body, hy, hRd⟩ := HY.out pre ⟨r.extract 0 f, hxf0⟩ wr HJp.out hlen (by intro q hq; simp at hq; subst hq; exact hlt)
      clear hlen
      have HLT := Lib.hid hlt
      clear hlt
      gi_wp2_with fail
      refine ⟨trivial, (callsIn_wide.2 (HIX.out _)).mono ?_⟩
      rintro e w2 ⟨rfl, rfl⟩
      gi_wp2
      refine hRd.mono ?_
      rintro e W3 (⟨rfl, hJ3, hk3⟩ | ⟨rfl, hJx3⟩)
      · have d1 : Blk W3 Bs [.string r] 9 := (hk3.2 Bs (by simp)).trans HBk.out.1
        have d2 : Blk W3 Bq [.string { data := #[47] }] 9 := (hk3.2 Bq (by simp)).trans HBk.out.2.1
        have d3 : Blk W3 Bv [.int .i64 0] 3 := (hk3.2 Bv (by simp)).trans HBk.out.2.2
        have hx1 := d1.cell 0 rfl
        have hx2 := d2.cell 0 rfl
        have hxf := d1.frz 0
        have HD : Hid (Blk W3 Bs [.string r] 9 ∧ Blk W3 Bq [.string { data := #[47] }] 9 ∧ Blk W3 Bv [.int .i64 0] 3) := Lib.hid ⟨d1, d2, d3⟩
        have HJ3 := Lib.hid hJ3
        clear d1 d2 d3 hk3 hJ3 c1 c2 c3 hf1 hy HBk
        have hsz : (r.extract (f + 1) r.size).size = r.size - (f + 1) := by rw [ByteArray.size_extract]; omega
        have HSZ := Lib.hid hsz
        clear hsz
        gi_wp2
        gi_roundg (r.size - (f + 1))
        all_goals first
          | omega
          | (refine ⟨r.extract (f + 1) r.size, pre ++ [⟨r.extract 0 f, hxf0⟩], HSZ.out.symm, by rw [HSZ.out]; omega, Lib.hid (by rw [HP.out, HPF.out]; simp), Lib.hid (HJ.out _ _ _ HJ3.out ?_), Lib.hid ⟨?_, ?_, ?_⟩⟩
             · exact own2_of ((Upd.refl [Bs] _).setCell (.inl (by simp)) _) (fun k hk => hk) (fun k hk => by simp at hk; subst hk; exact HD.out.1.cellsOnly)
             · exact HD.out.1.set 0 _
             · exact HD.out.2.1.setFar _ HN.out
             · exact HD.out.2.2.setFar _ HN2.out)
      · gi_wp2
        refine bodyPost_ret (results_none rfl _ _ _) rfl ?_
        exact ⟨⟨_, rfl⟩, .inr ⟨_, by rw [HP.out, HPF.out]; exact ⟨partsS (r.extract (f + 1) r.size), by simp⟩, hJx3⟩⟩
    · have HIX := Lib.hid (fun w => index_no r w hc)
      have HPF := Lib.hid (partsS_last r hc)
      have hlen : pre.length < (partsS s).length := by rw [HP.out, HPF.out, List.length_append, List.length_map, List.length_cons]; omega
      obtain ⟨fn, tmps, assign, body, hy, hRd⟩ := HY.out pre ⟨r, by omega⟩ wr HJp.out hlen (by intro q hq; simp at hq; subst hq; exact hlt)
      clear hlen hc
      have HLT := Lib.hid hlt
      clear hlt
      gi_wp2_with fail
      refine ⟨trivial, (callsIn_wide.2 (HIX.out _)).mono ?_⟩
      rintro e w2 ⟨rfl, rfl⟩
      gi_wp2
      refine hRd.mono ?_
      rintro e W3 (⟨rfl, hJ3, hk3⟩ | ⟨rfl, hJx3⟩)
      · gi_wp2
        go_end0
        exact ⟨⟨_, rfl⟩, .inl ⟨_, by rw [HP.out, HPF.out]; simp, hJ3⟩⟩
      · gi_wp2
        go_end0
        exact ⟨⟨_, rfl⟩, .inr ⟨_, by rw [HP.out, HPF.out]; simp, hJx3⟩⟩
end Go.Proofs.YtibmhadnfggmlaaDoor
namespace Go.Proofs.YtibmhadnfggmlaaDoor
set_option linter.unusedVariables false
set_option linter.unusedSimpArgs false
set_option linter.unusedSectionVars false
open Go.RowKit Go.Shelf
attribute [local go_sem] Oper.semAt_some
set_option linter.unusedVariables false

theorem wp_act {P : Program} {c : Code} {Q : Exit → Act → World → Prop} {a : Act} {w : World} (h : ∀ fr, fr = a → c.wp P Q fr w) : c.wp P Q a w := h a rfl
theorem inBlock_two {id : Nat} {R : Exit → Act → World → Prop} {e : Exit} {a : Act} {W : World} (he : e = .normal ∨ e = .exit id) (h : Exit.inBlock id R .normal a W) : Exit.inBlock id R e a W := by
  rcases he with rfl | rfl
  · exact h
  · simpa [Exit.inBlock] using h
theorem Upd.putObj' {fp : List Nat} {a w : World} (h : Upd fp a w) {D : Nat} (hD : a.heap.size ≤ D) (o : Obj) : Upd fp a (w.putObj D o) := h.grown (grownBy_putObj' w D o) (fun k e => by cases e; exact .inr hD)
theorem reserved_any (w : World) : Calls Tryd.prog 76 #[] w fun e w' => e = .returned (.string { data := #[46, 115, 119, 105, 110, 103, 108, 101] }) ∧ w = w' := by
  go_enter Tryd.func76, Tryd.ntmps76
  go_wp2
  go_ret
  exact ⟨rfl, rfl⟩
theorem eq_res (l : List Nat) (hl : ∀ x ∈ l, x < 256) : ((strOf l).toList == [46, 115, 119, 105, 110, 103, 108, 101]) = decide (l = resP) := by
  rw [toList_bytes, bytesOf_strOf l hl]; rfl
theorem splitP_lt (s : ByteArray) : ∀ p ∈ splitP (bytesOf s), ∀ x ∈ p, x < 256 := fun p hp x hx => bytesOf_lt s x (splitP_mem _ p hp x hx)
theorem partsS_mem (s x : ByteArray) (h : x ∈ partsS s) : bytesOf x ∈ splitP (bytesOf s) := by
  unfold partsS at h
  obtain ⟨p, hp, rfl⟩ := List.mem_map.1 h
  rw [bytesOf_strOf p (splitP_lt s p hp)]; exact hp
theorem partsS_size (s x : ByteArray) (h : x ∈ partsS s) : x.size ≤ s.size := by
  have := splitP_plen _ _ (partsS_mem s x h)
  rw [length_bytesOf, length_bytesOf] at this; exact this
/-- Of the parts so far: each may be, and they are not too many. -/
def AllP (pre : List Shs) : Prop := pre.length ≤ 12 ∧ ∀ x ∈ pre, partOk (bytesOf x.1) = true
/-- .. or one may not be, or they are too many. -/
def NotP (pre : List Shs) : Prop := 12 < pre.length ∨ ∃ x ∈ pre, partOk (bytesOf x.1) = false
theorem allP_done (s : ByteArray) (h1 : s.size ≤ 200) (h2 : (splitP (bytesOf s)).headD [] ≠ resP) (pre : List Shs) (hp : pre.map Subtype.val = partsS s) (h : AllP pre) : rightP (bytesOf s) = true := by
  obtain ⟨h3, h4⟩ := h
  have hl : (splitP (bytesOf s)).length = pre.length := by
    have := congrArg List.length hp
    rw [List.length_map] at this; unfold partsS at this; rw [List.length_map] at this; omega
  refine rightP_yes (by rw [length_bytesOf]; exact h1) h2 (by omega) fun p hpm => ?_
  have hm : strOf p ∈ pre.map Subtype.val := by rw [hp]; unfold partsS; exact List.mem_map_of_mem hpm
  obtain ⟨x, hx, hxe⟩ := List.mem_map.1 hm
  have := h4 x hx
  rwa [hxe, bytesOf_strOf p (splitP_lt s p hpm)] at this
theorem allP_not (s : ByteArray) (pre : List Shs) (hp : pre.map Subtype.val <+: partsS s) (h : NotP pre) : rightP (bytesOf s) = false := by
  rcases h with h | ⟨x, hx, hb⟩
  · have h1 := hp.length_le
    unfold partsS at h1
    rw [List.length_map, List.length_map] at h1
    exact rightP_many (by omega)
  · exact rightP_bad (partsS_mem s x.1 (hp.subset (List.mem_map_of_mem hx))) hb
theorem results_cellB {fn : Func} {p : Tmp} (h : fn.results = #[.cell p 4]) (tmps : Array Value) (w : World) (g : Nat) (b : Bool) (hp : tmps.getD p undef = .pointer (some ⟨g, 0, none⟩)) (hB : Blk w g [.bool b] 4) :
    (results fn tmps).run Tryd.prog w = .ok (.bool b) w := by
  have hc := hB.cell 0 rfl
  have hp2 : tmps[p]?.getD undef = .pointer (some ⟨g, 0, none⟩) := by rw [← hp]; simp
  simp [results, h, go_sem, hp2, hc]
/-- Between two rounds. -/
def NrI (s : ByteArray) (w0 : World) (bn br : Nat) (pre : List Shs) (W : World) : Prop := Blk W bn [.int .i64 (pre.length : Nat)] 3 ∧ Blk W br [.bool false] 4 ∧ Upd [] w0 W
theorem NrI.own {s : ByteArray} {w0 : World} {bn br B : Nat} (hB : w0.heap.size ≤ B) : OwnFrom B (NrI s w0 bn br) := fun p A C row hs hg hr => by
  obtain ⟨h1, h2, h3⟩ := hs
  exact ⟨blk_ownF B bn (fun (_ : Unit) => _) _ () A C row h1 hg hr, blk_ownF B br (fun (_ : Unit) => _) _ () A C row h2 hg hr, upd_ownF B [] w0 hB () A C row h3 hg hr⟩
theorem NrI.w2 {s : ByteArray} {w0 : World} {bn br bs : Nat} (h1 : bn ≠ bs) (h2 : br ≠ bs) (h3 : w0.heap.size ≤ bs) : ∀ p A C, NrI s w0 bn br p A → Own2 [bs] A C → NrI s w0 bn br p C := fun p A C hs hAC => by
  obtain ⟨k1, k2, k3⟩ := hs
  exact ⟨k1.upd hAC.1 (by simpa using h1), k2.upd hAC.1 (by simpa using h2), k3.trans hAC.1 (fun k hk => by simp at hk; subst hk; exact .inr h3)⟩
set_option maxRecDepth 100000 in
set_option maxHeartbeats 4000000 in
theorem nameRight_any (s : ByteArray) (w : World) (hs : s.size ≤ 9223372036854775807) : Calls Tryd.prog 75 #[.string s] w fun e w' => e = .returned (.bool (rightP (bytesOf s))) ∧ Upd [] w w' := by
  have HC := Lib.hid (fun w => cut_any s w hs)
  have hhd : ∀ x ∈ (splitP (bytesOf s)).headD [], x < 256 := splitP_lt s _ (by
    rw [splitP_ht (bytesOf s)]; simp)
  have HQ := Lib.hid (eq_res _ hhd)
  have HLN := Lib.hid (length_bytesOf s)
  clear hhd
  refine (callsIn_wide (n := 9)).1 ?_
  refine callsIn_of_wp_marks Tryd.func75 rfl trivial ?_ rfl
  simp only [Tryd.ntmps75, List.size_toArray, List.length_cons, List.length_nil, Nat.reduceAdd, Nat.reduceSub, Array.replicate_succ, Array.replicate_zero, List.push_toArray, List.append_toArray, List.nil_append, List.cons_append]
  refine wpIn_wide.2 ?_
  let QQ : Exit → Act → World → Prop := bodyPost Tryd.prog Tryd.f75 (fun _ _ => True)
  by_cases h200 : 200 < s.size
  · have HE := Lib.hid (rightP_long (l := bytesOf s) (by rw [HLN.out]; exact h200))
    generalize (splitP (bytesOf s)).headD [] = hd at *
    go_wp2_with fail
    refine (HC.out _).mono ?_
    rintro e w1 ⟨⟨r, b, rfl⟩, hU1⟩
    have hBr : Blk w1 w.heap.size [.bool false] 4 := (Blk.new w [.bool false] 4).upd hU1 (by simp)
    have cr := hBr.cell 0 rfl
    have fr := hBr.frz 0
    have HBr := Lib.hid hBr
    have HUU := Lib.hid (((Upd.refl [] w).alloc (.cells #[.bool false] 4)).then hU1)
    clear hU1 hBr
    go_wp2
    exact ⟨.bool false, results_cellB rfl _ _ w.heap.size false rfl (HBr.out.set 0 _), by rw [HE.out], HUU.out.setCell (.inr (Nat.le_refl _)) _⟩
  · by_cases hres : (splitP (bytesOf s)).headD [] = resP
    · have HE := Lib.hid (rightP_res (l := bytesOf s) hres)
      have t1 := HQ.out.trans (decide_eq_true hres)
      clear hres HQ
      generalize (splitP (bytesOf s)).headD [] = hd at *
      go_wp2_with fail
      refine (HC.out _).mono ?_
      rintro e w1 ⟨⟨r, b, rfl⟩, hU1⟩
      have hBr : Blk w1 w.heap.size [.bool false] 4 := (Blk.new w [.bool false] 4).upd hU1 (by simp)
      have cr := hBr.cell 0 rfl
      have fr := hBr.frz 0
      have HBr := Lib.hid hBr
      have HUU := Lib.hid (((Upd.refl [] w).alloc (.cells #[.bool false] 4)).then hU1)
      clear hU1 hBr
      go_wp2_with (go_at_call 76; refine (reserved_any _).mono ?_; rintro e w' ⟨rfl, rfl⟩)
      exact ⟨.bool false, results_cellB rfl _ _ w.heap.size false rfl (HBr.out.set 0 _), by rw [HE.out], HUU.out.setCell (.inr (Nat.le_refl _)) _⟩
    · have HN := Lib.hid hres
      have t1 := HQ.out.trans (decide_eq_false hres)
      have hs2 : s.size ≤ 200 := by omega
      have HDN := Lib.hid (allP_done s hs2 hres)
      have HNT := Lib.hid (allP_not s)
      clear hres HQ HN
      generalize (splitP (bytesOf s)).headD [] = hd at *
      go_wp2_with fail
      refine (HC.out _).mono ?_
      rintro e w1 ⟨⟨r, b, rfl⟩, hU1⟩
      have HBr : Hid (Blk w1 w.heap.size [.bool false] 4) := Lib.hid ((Blk.new w [.bool false] 4).upd hU1 (by simp))
      have HUU := Lib.hid (((Upd.refl [] w).alloc (.cells #[.bool false] 4)).then hU1)
      clear hU1
      go_wp2_with (go_at_call 76; refine (reserved_any _).mono ?_; rintro e w' ⟨rfl, rfl⟩)
      have HBn : Hid (Blk (w1.alloc (.cells #[.int .i64 0] 3)) w1.heap.size [.int .i64 (([] : List Shs).length : Nat)] 3) := Lib.hid (Blk.new w1 [.int .i64 0] 3)
      have hA2 : Upd [] w1 (w1.alloc (.cells #[.int .i64 0] 3)) := (Upd.refl _ _).alloc _
      have HBr2 := Lib.hid (HBr.out.upd hA2 (by simp))
      have HU2 := Lib.hid (HUU.out.then hA2)
      have hz2 : w1.heap.size < (w1.alloc (.cells #[.int .i64 0] 3)).heap.size := by simp
      clear hA2 HUU
      have hlt0 := HBr.out.lt
      have hle0 : w.heap.size ≤ w1.heap.size := by omega
      clear HBr
      generalize w1.alloc (.cells #[.int .i64 0] 3) = w2 at *
      obtain ⟨bn, hbn⟩ : ∃ bn, w1.heap.size = bn := ⟨_, rfl⟩
      rw [hbn] at HBn hz2 hlt0 hle0 ⊢
      clear hbn
      go_wp2_with fail
      refine (splitSeq_any s w2).mono ?_
      rintro e w3 ⟨rfl, hw3⟩
      have HS3 : Hid (Blk w3 w2.heap.size [.string s] 9 ∧ Blk w3 (w2.heap.size + 1) [.string { data := #[47] }] 9 ∧ Blk w3 (w2.heap.size + 2) [.int .i64 0] 3) := Lib.hid (by
        rw [hw3]
        refine ⟨((Blk.new w2 [.string s] 9).alloc _).alloc _, ?_, ?_⟩
        · have := (Blk.new (w2.alloc (.cells #[.string s] 9)) [.string { data := #[47] }] 9).alloc (.cells #[.int .i64 0] 3)
          rw [World.size_alloc] at this; exact this
        · have := Blk.new ((w2.alloc (.cells #[.string s] 9)).alloc (.cells #[.string { data := #[47] }] 9)) [.int .i64 0] 3
          rw [World.size_alloc, World.size_alloc] at this; exact this)
      have hA3 : Upd [] w2 w3 := by rw [hw3]; exact (((Upd.refl _ _).alloc _).alloc _).alloc _
      have hz3 : w3.heap.size = w2.heap.size + 3 := by rw [hw3]; simp
      have HBn3 := Lib.hid (HBn.out.upd hA3 (by simp))
      have HBr3 := Lib.hid (HBr2.out.upd hA3 (by simp))
      have HU3 := Lib.hid (HU2.out.then hA3)
      clear hw3 hA3 HBn HBr2 HU2
      obtain ⟨bs, hbs⟩ : ∃ bs, w2.heap.size = bs := ⟨_, rfl⟩
      rw [hbs] at HS3 hz3 hz2 ⊢
      clear hbs
      have hw30 : w.heap.size ≤ w3.heap.size := HU3.out.size
      go_wp2_with fail
      refine wp_act ?_
      intro fr hfr
      refine Code.wp_mono (Q := fun e a' W => (e = .normal ∨ e = .ret) ∧ ∃ D pre, a' = { fr with defers := { target := .collected D, args := #[] } :: fr.defers } ∧ w3.heap.size ≤ D ∧ W.heap[D]? = some (.deferred (some [])) ∧ Blk W w.heap.size [.bool false] 4 ∧ Upd [] w W ∧
        Hid ((e = .normal ∧ pre.map Subtype.val = partsS s ∧ AllP pre) ∨ (e = .ret ∧ pre.map Subtype.val <+: partsS s ∧ NotP pre))) ?cont ((wpIn_wide (n := 9)).1 ?main)
      case main =>
        refine loopWA (gf := 159) (lb := #[.pointer (some ⟨bs + 1, 0, none⟩), .pointer (some ⟨bs, 0, none⟩), .pointer (some ⟨bs + 2, 0, none⟩)]) (by rw [hfr]; rfl) (enters_of Tryd.func159 (by kernel_rfl) rfl)
          (split_seq bs (bs + 1) (bs + 2) s w3 HS3.out.1 HS3.out.2.1 HS3.out.2.2 ⟨by omega, by omega⟩ (by omega)) (by intro k hk; simp at hk; omega) (fun _ => rfl)
          (fun pre W => NrI s w bn w.heap.size pre W ∧ Hid (AllP pre))
          (fun c pre W => (c = .ret ∧ Hid (NotP pre)) ∧ NrI s w bn w.heap.size pre W)
          ?act
          (OwnFrom.and (NrI.own hw30) (ownFrom_pure _ _)) (fun c => OwnFrom.and (ownFrom_pure _ _) (NrI.own hw30))
          ?iw ?ixw ⟨⟨HBn3.out, HBr3.out, HU3.out⟩, Lib.hid ⟨by simp, by simp⟩⟩ ?assign ?body ?done ?stop
        case assign =>
          intro L1 x W K hK
          subst hfr
          gi_wp2
          exact hK
        case iw =>
          rintro s' A C ⟨h1, h2⟩ hAC
          exact ⟨NrI.w2 (by omega) (by omega) (by omega) _ A C h1 hAC, h2⟩
        case ixw =>
          rintro c s' A C ⟨h1, h2⟩ hAC
          exact ⟨h1, NrI.w2 (by omega) (by omega) (by omega) _ A C h2 hAC⟩
        case body =>
          rintro L1 pre x W hsz hfp ⟨⟨hn, hr, hU⟩, hA⟩ hlt
          subst hfr
          have n0 := hn.cell 0 rfl
          have nf := hn.frz 0
          have r0 := hr.cell 0 rfl
          have rf := hr.frz 0
          have HNb := Lib.hid hn
          have HRb := Lib.hid hr
          have HUb := Lib.hid hU
          have hp0 : (pre.length : Int) ≤ 12 := by have := hA.out.1; omega
          have HPT := Lib.hid (fun w => part_any x.1 w x.2)
          clear hn hr hU hlt hfp
          have hbw : w.heap.size ≠ bn := by omega
          have r1 : (W.setCell ⟨bn, 0, none⟩ (.int .i64 ((pre.length : Int) + 1))).cell? ⟨w.heap.size, 0, none⟩ = some (.bool false) := (HRb.out.setFar (a := ⟨bn, 0, none⟩) _ hbw).cell 0 rfl
          have rf1 : (W.setCell ⟨bn, 0, none⟩ (.int .i64 ((pre.length : Int) + 1))).frozen? ⟨w.heap.size, 0, none⟩ = false := (HRb.out.setFar (a := ⟨bn, 0, none⟩) _ hbw).frz 0
          have hn1 : Blk (W.setCell ⟨bn, 0, none⟩ (.int .i64 ((pre.length : Int) + 1))) bn [.int .i64 ((pre ++ [x]).length : Nat)] 3 := by
            have := HNb.out.set 0 (.int .i64 ((pre.length : Int) + 1))
            rw [List.length_append]; exact this
          have hr1 := HRb.out.setFar (a := ⟨bn, 0, none⟩) (.int .i64 ((pre.length : Int) + 1)) hbw
          have hU1 : Upd [] w (W.setCell ⟨bn, 0, none⟩ (.int .i64 ((pre.length : Int) + 1))) := HUb.out.setCell (.inr (by simp; omega)) _
          have hUx : Upd [bn] W (W.setCell ⟨bn, 0, none⟩ (.int .i64 ((pre.length : Int) + 1))) := (Upd.refl _ _).setCell (.inl (by simp)) _
          have hK1 : KeepsFrom w3.heap.size W (W.setCell ⟨bn, 0, none⟩ (.int .i64 ((pre.length : Int) + 1))) := (hUx.others (fun k hk => by simp at hk; subst hk; exact HNb.out.cellsOnly)).from _
          have hKp : Keep [bs, bs + 1, bs + 2] W (W.setCell ⟨bn, 0, none⟩ (.int .i64 ((pre.length : Int) + 1))) := Keep.of_upd hUx (fun k hk => by simp at hk; constructor <;> (try simp) <;> omega)
          have HN1 := Lib.hid hn1
          have HR1 := Lib.hid hr1
          have HU1 := Lib.hid hU1
          have HK1 := Lib.hid hK1
          have HKP := Lib.hid hKp
          have hlt1 : bn < (W.setCell ⟨bn, 0, none⟩ (.int .i64 ((pre.length : Int) + 1))).heap.size := hn1.lt
          clear hn1 hr1 hU1 hUx hK1 hKp
          cases hpo : partOk (bytesOf x.1) with
          | true =>
            rw [hpo] at HPT
            by_cases h12 : pre.length + 1 ≤ 12
            · have h12' : (pre.length : Int) + 1 ≤ 12 := by omega
              have HAN : Hid (AllP (pre ++ [x])) := Lib.hid ⟨by simp; omega, fun y hy => by
                rcases List.mem_append.1 hy with hy | hy
                · exact hA.out.2 y hy
                · simp at hy; subst hy; exact hpo⟩
              clear hpo h12
              gi_wp2_with fail
              refine ⟨trivial, (CallsIn.inRound L1 (callsIn_wide.2 (HPT.out _))).mono ?_⟩
              rintro e W2 ⟨rfl, rfl⟩
              gi_wp2
              exact ⟨HK1.out, HKP.out, ⟨HN1.out, HR1.out, HU1.out⟩, HAN⟩
            · have h12' : 12 < (pre.length : Int) + 1 := by omega
              have HAN : Hid (NotP (pre ++ [x])) := Lib.hid (.inl (by simp; omega))
              clear hpo h12
              gi_wp2_with fail
              refine ⟨trivial, (CallsIn.inRound L1 (callsIn_wide.2 (HPT.out _))).mono ?_⟩
              rintro e W2 ⟨rfl, rfl⟩
              gi_wp2
              have hUy : Upd [w.heap.size] (W.setCell ⟨bn, 0, none⟩ (.int .i64 ((pre.length : Int) + 1))) ((W.setCell ⟨bn, 0, none⟩ (.int .i64 ((pre.length : Int) + 1))).setCell ⟨w.heap.size, 0, none⟩ (.bool false)) := (Upd.refl _ _).setCell (.inl (by simp)) _
              refine ⟨HK1.out.trans ((hUy.others (fun k hk => by simp at hk; subst hk; exact HR1.out.cellsOnly)).from _), ⟨rfl, HAN⟩, HN1.out.setFar _ (by simp; omega), HR1.out.set 0 _, HU1.out.setCell (.inr (Nat.le_refl _)) _⟩
          | false =>
            rw [hpo] at HPT
            have HAN : Hid (NotP (pre ++ [x])) := Lib.hid (.inr ⟨x, by simp, hpo⟩)
            clear hpo
            gi_wp2_with fail
            refine ⟨trivial, (CallsIn.inRound L1 (callsIn_wide.2 (HPT.out _))).mono ?_⟩
            rintro e W2 ⟨rfl, rfl⟩
            gi_wp2
            have hUy : Upd [w.heap.size] (W.setCell ⟨bn, 0, none⟩ (.int .i64 ((pre.length : Int) + 1))) ((W.setCell ⟨bn, 0, none⟩ (.int .i64 ((pre.length : Int) + 1))).setCell ⟨w.heap.size, 0, none⟩ (.bool false)) := (Upd.refl _ _).setCell (.inl (by simp)) _
            refine ⟨HK1.out.trans ((hUy.others (fun k hk => by simp at hk; subst hk; exact HR1.out.cellsOnly)).from _), ⟨rfl, HAN⟩, HN1.out.setFar _ (by simp; omega), HR1.out.set 0 _, HU1.out.setCell (.inr (Nat.le_refl _)) _⟩
        case done =>
          rintro D xs W hD hxs ⟨⟨hn, hr, hU⟩, hA⟩ hK
          exact ⟨.inl rfl, D, _, rfl, hD, hK, hr, hU, Lib.hid (.inl ⟨rfl, hxs, hA.out⟩)⟩
        case stop =>
          rintro D c pre W hD hpre ⟨⟨rfl, hA⟩, hn, hr, hU⟩ hK
          refine wpIn_ret ?_
          exact ⟨.inr rfl, D, pre, rfl, hD, hK, hr, hU, Lib.hid (.inr ⟨rfl, hpre, hA.out⟩)⟩
      case cont =>
        rintro e a' wz ⟨he, D, pre, rfl, hD, hDk, hr, hU, HP⟩
        subst hfr
        have HR := Lib.hid hr
        have HU := Lib.hid hU
        have r0 := hr.cell 0 rfl
        have rf := hr.frz 0
        have HDk := Lib.hid hDk
        have hwD : w.heap.size ≤ D := by omega
        have hDlt : D < wz.heap.size := (Array.getElem?_eq_some_iff.1 hDk).1
        clear hr hU hDk
        rcases HP.out with ⟨rfl, hpp, hA⟩ | ⟨rfl, hpp, hA⟩
        · have HE := Lib.hid (HDN.out pre hpp hA)
          clear HP hpp hA he
          go_wp2
          have hk9 : (wz.setCell ⟨w.heap.size, 0, none⟩ (.bool true)).heap[D]? = some (.deferred (some [])) := (Below.heap_setCell _ _ _ _ (by simp; omega)).trans HDk.out
          refine ⟨by simp, .inl ⟨_, _, rfl, run_takeDeferred hk9, ?_⟩⟩
          have hB9 : Blk ((wz.setCell ⟨w.heap.size, 0, none⟩ (.bool true)).putObj D (.deferred none)) w.heap.size [.bool true] 4 := (World.putObj_heap_other (by omega)).trans (HR.out.set 0 _)
          exact ⟨.bool true, results_cellB rfl _ _ w.heap.size true rfl hB9, by rw [HE.out], (HU.out.setCell (.inr (Nat.le_refl _)) _).putObj' hwD _⟩
        · have HE := Lib.hid (HNT.out pre hpp hA)
          clear HP hpp hA he
          go_wp2
          refine ⟨by simp, .inl ⟨_, _, rfl, run_takeDeferred HDk.out, ?_⟩⟩
          have hB9 : Blk (wz.putObj D (.deferred none)) w.heap.size [.bool false] 4 := (World.putObj_heap_other (by omega)).trans HR.out
          exact ⟨.bool false, results_cellB rfl _ _ w.heap.size false rfl hB9, by rw [HE.out], HU.out.putObj' hwD _⟩
end Go.Proofs.YtibmhadnfggmlaaDoor
