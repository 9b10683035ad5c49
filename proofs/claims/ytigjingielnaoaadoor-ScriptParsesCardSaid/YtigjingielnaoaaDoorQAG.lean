/- Package strings, at the separator "/": Index, Cut, and the iterator of SplitSeq. -/
import Derived.Shelf.Abstract
import Derived.Shelf.RegionOpen
import Derived.WalkKit
import Derived.OwnWalkIn
import Derived.TacticsInMore
import Derived.LoopNIn
import Derived.LoopIn
import Derived.Sort.LoopGhostIn
import Derived.Lib.Bytealg
import Derived.Handy
import Derived.Outline
import Derived.Deep.QuietTactic
import Derived.BigQuiet
import Derived.Test.YtigjingielnaoaaDoorProg
import Derived.Test.YtigjingielnaoaaDoorQAF
import Derived.Test.YtigjingielnaoaaDoorQAA
import Derived.Lib.Hide
namespace Go.Proofs.YtigjingielnaoaaDoor
set_option linter.unusedVariables false
set_option linter.unusedSimpArgs false
set_option linter.unusedSectionVars false
open Go.RowKit Go.Shelf
attribute [local go_sem] Oper.semAt_some
set_option linter.unusedVariables false

/-- How many bytes stand ahead of the first slash. -/
def firstS (l : List Nat) : Nat := (l.takeWhile (fun c => decide (c ≠ 47))).length
theorem firstS_le (l : List Nat) : firstS l ≤ l.length := (List.takeWhile_prefix _).length_le
theorem firstS_cons (c : Nat) (r : List Nat) : firstS (c :: r) = if c = 47 then 0 else firstS r + 1 := by
  unfold firstS
  rw [List.takeWhile_cons]
  by_cases h : c = 47 <;> simp [h]
theorem splitP_first : ∀ (l : List Nat), firstS l < l.length → splitP l = l.take (firstS l) :: splitP (l.drop (firstS l + 1))
  | [], h => by simp at h
  | c :: r, h => by
    rw [firstS_cons] at h ⊢
    by_cases e : c = 47
    · subst e; simp [splitP]
    · rw [if_neg e] at h ⊢
      have ih := splitP_first r (by rw [List.length_cons] at h; omega)
      have e2 : splitP (c :: r) = (c :: (splitP r).headD []) :: (splitP r).tail := by rw [splitP, if_neg e]
      rw [e2, ih]
      simp
theorem splitP_last : ∀ (l : List Nat), ¬ firstS l < l.length → splitP l = [l]
  | [], _ => rfl
  | c :: r, h => by
    rw [firstS_cons] at h
    by_cases e : c = 47
    · rw [if_pos e] at h; simp at h
    · rw [if_neg e] at h
      have ih := splitP_last r (by rw [List.length_cons] at h; omega)
      have e2 : splitP (c :: r) = (c :: (splitP r).headD []) :: (splitP r).tail := by rw [splitP, if_neg e]
      rw [e2, ih]
      simp
theorem splitP_headT (l : List Nat) : (splitP l).headD [] = l.take (firstS l) := by
  by_cases h : firstS l < l.length
  · rw [splitP_first l h]; rfl
  · rw [splitP_last l h, List.headD_cons, List.take_of_length_le (by omega)]
theorem indexByte_slash (L : List UInt8) : Lib.indexByte L 47 = if firstS (L.map UInt8.toNat) < L.length then (firstS (L.map UInt8.toNat) : Int) else -1 := by
  induction L with
  | nil => rfl
  | cons b l ih =>
    have hb : (b == 47) = decide (b.toNat = 47) := by
      rw [Bool.eq_iff_iff]; simp [← UInt8.toNat_inj]
    rw [List.map_cons, firstS_cons, Lib.indexByte, hb, ih]
    by_cases e : b.toNat = 47
    · simp [e]
    · rw [if_neg (by simp [e]), if_neg e]
      by_cases h : firstS (l.map UInt8.toNat) < l.length
      · have h1 : (((firstS (l.map UInt8.toNat) : Nat) : Int) == -1) = false := by rw [beq_eq_false_iff_ne]; omega
        rw [if_pos h, h1, if_pos (show firstS (l.map UInt8.toNat) + 1 < (b :: l).length by rw [List.length_cons]; omega)]; simp
      · rw [if_neg h, if_neg (show ¬ firstS (l.map UInt8.toNat) + 1 < (b :: l).length by rw [List.length_cons]; omega)]; rfl
set_option maxRecDepth 100000 in
theorem sliteByte_slash (s : ByteArray) (w : World) : Calls Tryd.prog 93 #[.string s, .int .u8 47] w fun e w' => e = .returned (.int .i64 (Lib.indexByte s.data.toList 47)) ∧ w = w' := by
  go_enter Tryd.func93, Tryd.ntmps93
  go_wp2
  rw [run_callFunc_extern Tryd.func112 (by kernel_rfl) (by kernel_rfl) (by kernel_rfl) (e := Extern.BytealgIndexByte.indexByte) (by kernel_rfl), Lib.run_indexByteString]
  simp only [Result.andThen]
  rw [Oper.upon_value]
  go_wp2
  go_ret
  exact ⟨rfl, rfl⟩
set_option maxRecDepth 100000 in
theorem slite_slash (s : ByteArray) (w : World) : Calls Tryd.prog 105 #[.string s, .string { data := #[47] }] w fun e w' => e = .returned (.int .i64 (Lib.indexByte s.data.toList 47)) ∧ w = w' := by
  cases hq : ([47] == s.toList) with
  | true =>
    have e1 : s.toList = [47] := (beq_iff_eq.1 hq).symm
    have HZ := Lib.hid (show Lib.indexByte s.data.toList 47 = 0 from by rw [ByteArray.toList_eq] at e1; rw [e1]; rfl)
    clear e1
    go_enter Tryd.func105, Tryd.ntmps105
    go_wp2
    go_ret
    exact ⟨by rw [HZ.out]; rfl, rfl⟩
  | false =>
    go_enter Tryd.func105, Tryd.ntmps105
    go_wp2_with (go_at_call 93; refine (sliteByte_slash _ _).mono ?_; rintro e w' ⟨rfl, rfl⟩)
    go_ret
    exact ⟨rfl, rfl⟩
theorem index_slash (s : ByteArray) (w : World) : Calls Tryd.prog 81 #[.string s, .string { data := #[47] }] w fun e w' => e = .returned (.int .i64 (Lib.indexByte s.data.toList 47)) ∧ w = w' := by
  go_enter Tryd.func81, Tryd.ntmps81
  go_wp2_with (go_at_call 105; refine (slite_slash _ _).mono ?_; rintro e w' ⟨rfl, rfl⟩)
  go_ret
  exact ⟨rfl, rfl⟩
theorem sindex_yes (s : ByteArray) (w : World) (h : firstS (bytesOf s) < s.size) : Calls Tryd.prog 105 #[.string s, .string { data := #[47] }] w fun e w' => e = .returned (.int .i64 (firstS (bytesOf s) : Nat)) ∧ w = w' :=
  (slite_slash s w).mono fun e w' ⟨h1, h2⟩ => ⟨by rw [h1, indexByte_slash]; unfold bytesOf at h ⊢; rw [if_pos (by exact h)], h2⟩
theorem sindex_no (s : ByteArray) (w : World) (h : ¬ firstS (bytesOf s) < s.size) : Calls Tryd.prog 105 #[.string s, .string { data := #[47] }] w fun e w' => e = .returned (.int .i64 (-1)) ∧ w = w' :=
  (slite_slash s w).mono fun e w' ⟨h1, h2⟩ => ⟨by rw [h1, indexByte_slash]; unfold bytesOf at h; rw [if_neg (by exact h)], h2⟩
theorem index_yes (s : ByteArray) (w : World) (h : firstS (bytesOf s) < s.size) : Calls Tryd.prog 81 #[.string s, .string { data := #[47] }] w fun e w' => e = .returned (.int .i64 (firstS (bytesOf s) : Nat)) ∧ w = w' :=
  (index_slash s w).mono fun e w' ⟨h1, h2⟩ => ⟨by rw [h1, indexByte_slash]; unfold bytesOf at h ⊢; rw [if_pos (by exact h)], h2⟩
theorem index_no (s : ByteArray) (w : World) (h : ¬ firstS (bytesOf s) < s.size) : Calls Tryd.prog 81 #[.string s, .string { data := #[47] }] w fun e w' => e = .returned (.int .i64 (-1)) ∧ w = w' :=
  (index_slash s w).mono fun e w' ⟨h1, h2⟩ => ⟨by rw [h1, indexByte_slash]; unfold bytesOf at h; rw [if_neg (by exact h)], h2⟩
theorem bytesOf_extract (s : ByteArray) (a b : Nat) : bytesOf (s.extract a b) = ((bytesOf s).drop a).take (b - a) := by
  simp [bytesOf, ByteArray.data_extract, List.map_take, List.map_drop]
theorem strOf_take (s : ByteArray) (n : Nat) : s.extract 0 n = strOf ((bytesOf s).take n) := by
  rw [← strOf_bytesOf (s.extract 0 n), bytesOf_extract]; simp
set_option maxRecDepth 100000 in
theorem cutL_any (s : ByteArray) (w : World) (hs : s.size ≤ 9223372036854775807) : Calls Tryd.prog 115 #[.string s, .string { data := #[47] }] w fun e w' => (∃ r b, e = .returned (.tuple #[.string (strOf ((splitP (bytesOf s)).headD [])), .string r, .bool b])) ∧ Upd [] w w' := by
  have HT := Lib.hid (splitP_headT (bytesOf s))
  have hl := length_bytesOf s
  have h0 := firstS_le (bytesOf s)
  by_cases h : firstS (bytesOf s) < s.size
  · have HY := Lib.hid (fun w => sindex_yes s w h)
    have HE := Lib.hid (strOf_take s (firstS (bytesOf s)))
    generalize firstS (bytesOf s) = f at *
    clear hl h0
    go_enter Tryd.func115, Tryd.ntmps115
    go_wp2_with (go_at_call 105; refine (HY.out _).mono ?_; rintro e w' ⟨rfl, rfl⟩)
    go_quiet (fail)
    go_wp2
    go_ret3
    exact ⟨⟨s.extract (f + 1) s.size, true, by rw [HT.out, ← HE.out]; rfl⟩, (Upd.refl _ _).drewN _⟩
  · have HY := Lib.hid (fun w => sindex_no s w h)
    have HE := Lib.hid (strOf_take s (firstS (bytesOf s)))
    have e1 : (bytesOf s).take (firstS (bytesOf s)) = bytesOf s := List.take_of_length_le (by omega)
    rw [e1] at HT
    clear hl h0 HE e1 h
    go_enter Tryd.func115, Tryd.ntmps115
    go_wp2_with (go_at_call 105; refine (HY.out _).mono ?_; rintro e w' ⟨rfl, rfl⟩)
    go_ret3
    exact ⟨⟨{ data := #[] }, false, by rw [HT.out, strOf_bytesOf]; rfl⟩, Upd.refl _ _⟩
theorem cut_any (s : ByteArray) (w : World) (hs : s.size ≤ 9223372036854775807) : Calls Tryd.prog 96 #[.string s, .string { data := #[47] }] w fun e w' => (∃ r b, e = .returned (.tuple #[.string (strOf ((splitP (bytesOf s)).headD [])), .string r, .bool b])) ∧ Upd [] w w' := by
  have HC := Lib.hid (fun w => cutL_any s w hs)
  generalize (splitP (bytesOf s)).headD [] = hd at *
  go_enter Tryd.func96, Tryd.ntmps96
  go_wp2_with (go_at_call 115; refine (HC.out _).mono ?_; rintro e w' ⟨⟨r, b, rfl⟩, hU⟩)
  go_ret3
  exact ⟨⟨r, b, rfl⟩, hU⟩
end Go.Proofs.YtigjingielnaoaaDoor
namespace Go.Proofs.YtigjingielnaoaaDoor
set_option linter.unusedVariables false
set_option linter.unusedSimpArgs false
set_option linter.unusedSectionVars false
open Go.RowKit

def letV (p : Nat × Nat × Nat) : Value := .tuple #[.int .i64 (p.1 : Nat), .int .u8 (p.2.1 : Nat), .int .u8 (p.2.2 : Nat)]
set_option maxRecDepth 100000 in
set_option maxHeartbeats 4000000 in
theorem letter_any (s : ByteArray) (w : World) (h : 0 < s.size) (hs : s.size ≤ 9223372036854775807) : Calls Tryd.prog 131 #[.string s] w fun e w' =>
    e = .returned (letV (letterP s[0].toNat)) ∧ w = w' := by
  have hlt := s[0].toNat_lt
  have ways : (s[0].toNat < 128) ∨ (128 ≤ s[0].toNat ∧ s[0].toNat < 194) ∨ (194 ≤ s[0].toNat ∧ s[0].toNat ≤ 223) ∨ (s[0].toNat = 224) ∨ (225 ≤ s[0].toNat ∧ s[0].toNat < 237) ∨ (s[0].toNat = 237) ∨ (238 ≤ s[0].toNat ∧ s[0].toNat ≤ 239) ∨ (s[0].toNat = 240) ∨ (241 ≤ s[0].toNat ∧ s[0].toNat ≤ 243) ∨ (s[0].toNat = 244) ∨ (245 ≤ s[0].toNat) := by omega
  rcases ways with h0 | h0 | h0 | h0 | h0 | h0 | h0 | h0 | h0 | h0 | h0
  · have HV : Hid (letterP s[0].toNat = (1, 0, 0)) := Lib.hid (by
      unfold letterP
      repeat' split
      all_goals first | rfl | (exfalso; omega))
    rw [HV.out]
    go_enter Tryd.func131, Tryd.ntmps131
    go_wp2
    all_goals first
      | (go_ret; exact ⟨rfl, rfl⟩)
      | (refine bodyPost_ret (results_tmp3 rfl _ _ _) rfl ⟨rfl, rfl⟩)
      | (exfalso; omega)
  · have HV : Hid (letterP s[0].toNat = (0, 0, 0)) := Lib.hid (by
      unfold letterP
      repeat' split
      all_goals first | rfl | (exfalso; omega))
    rw [HV.out]
    go_enter Tryd.func131, Tryd.ntmps131
    go_wp2
    all_goals first
      | (go_ret; exact ⟨rfl, rfl⟩)
      | (refine bodyPost_ret (results_tmp3 rfl _ _ _) rfl ⟨rfl, rfl⟩)
      | (exfalso; omega)
  · have HV : Hid (letterP s[0].toNat = (2, 128, 191)) := Lib.hid (by
      unfold letterP
      repeat' split
      all_goals first | rfl | (exfalso; omega))
    rw [HV.out]
    go_enter Tryd.func131, Tryd.ntmps131
    go_wp2
    all_goals first
      | (go_ret; exact ⟨rfl, rfl⟩)
      | (refine bodyPost_ret (results_tmp3 rfl _ _ _) rfl ⟨rfl, rfl⟩)
      | (exfalso; omega)
  · have HV : Hid (letterP s[0].toNat = (3, 160, 191)) := Lib.hid (by
      unfold letterP
      repeat' split
      all_goals first | rfl | (exfalso; omega))
    rw [HV.out]
    go_enter Tryd.func131, Tryd.ntmps131
    go_wp2
    all_goals first
      | (go_ret; exact ⟨rfl, rfl⟩)
      | (refine bodyPost_ret (results_tmp3 rfl _ _ _) rfl ⟨rfl, rfl⟩)
      | (exfalso; omega)
  · have HV : Hid (letterP s[0].toNat = (3, 128, 191)) := Lib.hid (by
      unfold letterP
      repeat' split
      all_goals first | rfl | (exfalso; omega))
    rw [HV.out]
    go_enter Tryd.func131, Tryd.ntmps131
    go_wp2
    all_goals first
      | (go_ret; exact ⟨rfl, rfl⟩)
      | (refine bodyPost_ret (results_tmp3 rfl _ _ _) rfl ⟨rfl, rfl⟩)
      | (exfalso; omega)
  · have HV : Hid (letterP s[0].toNat = (3, 128, 159)) := Lib.hid (by
      unfold letterP
      repeat' split
      all_goals first | rfl | (exfalso; omega))
    rw [HV.out]
    go_enter Tryd.func131, Tryd.ntmps131
    go_wp2
    all_goals first
      | (go_ret; exact ⟨rfl, rfl⟩)
      | (refine bodyPost_ret (results_tmp3 rfl _ _ _) rfl ⟨rfl, rfl⟩)
      | (exfalso; omega)
  · have HV : Hid (letterP s[0].toNat = (3, 128, 191)) := Lib.hid (by
      unfold letterP
      repeat' split
      all_goals first | rfl | (exfalso; omega))
    rw [HV.out]
    go_enter Tryd.func131, Tryd.ntmps131
    go_wp2
    all_goals first
      | (go_ret; exact ⟨rfl, rfl⟩)
      | (refine bodyPost_ret (results_tmp3 rfl _ _ _) rfl ⟨rfl, rfl⟩)
      | (exfalso; omega)
  · have HV : Hid (letterP s[0].toNat = (4, 144, 191)) := Lib.hid (by
      unfold letterP
      repeat' split
      all_goals first | rfl | (exfalso; omega))
    rw [HV.out]
    go_enter Tryd.func131, Tryd.ntmps131
    go_wp2
    all_goals first
      | (go_ret; exact ⟨rfl, rfl⟩)
      | (refine bodyPost_ret (results_tmp3 rfl _ _ _) rfl ⟨rfl, rfl⟩)
      | (exfalso; omega)
  · have HV : Hid (letterP s[0].toNat = (4, 128, 191)) := Lib.hid (by
      unfold letterP
      repeat' split
      all_goals first | rfl | (exfalso; omega))
    rw [HV.out]
    go_enter Tryd.func131, Tryd.ntmps131
    go_wp2
    all_goals first
      | (go_ret; exact ⟨rfl, rfl⟩)
      | (refine bodyPost_ret (results_tmp3 rfl _ _ _) rfl ⟨rfl, rfl⟩)
      | (exfalso; omega)
  · have HV : Hid (letterP s[0].toNat = (4, 128, 143)) := Lib.hid (by
      unfold letterP
      repeat' split
      all_goals first | rfl | (exfalso; omega))
    rw [HV.out]
    go_enter Tryd.func131, Tryd.ntmps131
    go_wp2
    all_goals first
      | (go_ret; exact ⟨rfl, rfl⟩)
      | (refine bodyPost_ret (results_tmp3 rfl _ _ _) rfl ⟨rfl, rfl⟩)
      | (exfalso; omega)
  · have HV : Hid (letterP s[0].toNat = (0, 0, 0)) := Lib.hid (by
      unfold letterP
      repeat' split
      all_goals first | rfl | (exfalso; omega))
    rw [HV.out]
    go_enter Tryd.func131, Tryd.ntmps131
    go_wp2
    all_goals first
      | (go_ret; exact ⟨rfl, rfl⟩)
      | (refine bodyPost_ret (results_tmp3 rfl _ _ _) rfl ⟨rfl, rfl⟩)
      | (exfalso; omega)
end Go.Proofs.YtigjingielnaoaaDoor
