/- Package name: letter. -/
import Derived.WalkKit
import Derived.Handy
import Derived.Lib.Hide
import Derived.Test.YtigjingielnaoaaGreatDoorProg
import Derived.Test.YtigjingielnaoaaGreatDoorQAH
import Derived.Outline
import Derived.LoopTactic
import Derived.Lib.ConvBytes
import Derived.Test.YtigjingielnaoaaGreatDoorDosG
import Derived.Test.YtigjingielnaoaaGreatDoorDTxt
namespace Go.Proofs.YtigjingielnaoaaGreatDoor
set_option linter.unusedVariables false
set_option linter.unusedSimpArgs false
set_option linter.unusedSectionVars false
open Go.RowKit

def letV (p : Nat × Nat × Nat) : Value := .tuple #[.int .i64 (p.1 : Nat), .int .u8 (p.2.1 : Nat), .int .u8 (p.2.2 : Nat)]
set_option maxRecDepth 100000 in
set_option maxHeartbeats 4000000 in
theorem letter_any (s : ByteArray) (w : World) (h : 0 < s.size) (hs : s.size ≤ 9223372036854775807) : Calls Tryz.prog 191 #[.string s] w fun e w' =>
    e = .returned (letV (letterP s[0].toNat)) ∧ w = w' := by
  have hlt := s[0].toNat_lt
  have ways : (s[0].toNat < 128) ∨ (128 ≤ s[0].toNat ∧ s[0].toNat < 194) ∨ (194 ≤ s[0].toNat ∧ s[0].toNat ≤ 223) ∨ (s[0].toNat = 224) ∨ (225 ≤ s[0].toNat ∧ s[0].toNat < 237) ∨ (s[0].toNat = 237) ∨ (238 ≤ s[0].toNat ∧ s[0].toNat ≤ 239) ∨ (s[0].toNat = 240) ∨ (241 ≤ s[0].toNat ∧ s[0].toNat ≤ 243) ∨ (s[0].toNat = 244) ∨ (245 ≤ s[0].toNat) := by omega
  rcases ways with h0 | h0 | h0 | h0 | h0 | h0 | h0 | h0 | h0 | h0 | h0
  · have HV : Hid (letterP s[0].toNat = (1, 0, 0)) := Lib.hid (by
      unfold letterP
      repeat' split
      all_goals first | rfl | (exfalso; omega))
    rw [HV.out]
    go_enter Tryz.func191, Tryz.ntmps191
    go_wp2
    all_goals first
      | (go_ret; exact ⟨rfl, rfl⟩)
      | (refine bodyPost_ret (results_tmp3 rfl _ _ _) rfl ⟨rfl, rfl⟩)
      | (exfalso; omega)
  · have HV : Hid (letterP s[0].toNat = (0, 0, 0)) := Lib.hid (by
      unfold letterP
      repeat' split
      all_goals first | rfl | (exfalso; omega))
    rw [HV.out]
    go_enter Tryz.func191, Tryz.ntmps191
    go_wp2
    all_goals first
      | (go_ret; exact ⟨rfl, rfl⟩)
      | (refine bodyPost_ret (results_tmp3 rfl _ _ _) rfl ⟨rfl, rfl⟩)
      | (exfalso; omega)
  · have HV : Hid (letterP s[0].toNat = (2, 128, 191)) := Lib.hid (by
      unfold letterP
      repeat' split
      all_goals first | rfl | (exfalso; omega))
    rw [HV.out]
    go_enter Tryz.func191, Tryz.ntmps191
    go_wp2
    all_goals first
      | (go_ret; exact ⟨rfl, rfl⟩)
      | (refine bodyPost_ret (results_tmp3 rfl _ _ _) rfl ⟨rfl, rfl⟩)
      | (exfalso; omega)
  · have HV : Hid (letterP s[0].toNat = (3, 160, 191)) := Lib.hid (by
      unfold letterP
      repeat' split
      all_goals first | rfl | (exfalso; omega))
    rw [HV.out]
    go_enter Tryz.func191, Tryz.ntmps191
    go_wp2
    all_goals first
      | (go_ret; exact ⟨rfl, rfl⟩)
      | (refine bodyPost_ret (results_tmp3 rfl _ _ _) rfl ⟨rfl, rfl⟩)
      | (exfalso; omega)
  · have HV : Hid (letterP s[0].toNat = (3, 128, 191)) := Lib.hid (by
      unfold letterP
      repeat' split
      all_goals first | rfl | (exfalso; omega))
    rw [HV.out]
    go_enter Tryz.func191, Tryz.ntmps191
    go_wp2
    all_goals first
      | (go_ret; exact ⟨rfl, rfl⟩)
      | (refine bodyPost_ret (results_tmp3 rfl _ _ _) rfl ⟨rfl, rfl⟩)
      | (exfalso; omega)
  · have HV : Hid (letterP s[0].toNat = (3, 128, 159)) := Lib.hid (by
      unfold letterP
      repeat' split
      all_goals first | rfl | (exfalso; omega))
    rw [HV.out]
    go_enter Tryz.func191, Tryz.ntmps191
    go_wp2
    all_goals first
      | (go_ret; exact ⟨rfl, rfl⟩)
      | (refine bodyPost_ret (results_tmp3 rfl _ _ _) rfl ⟨rfl, rfl⟩)
      | (exfalso; omega)
  · have HV : Hid (letterP s[0].toNat = (3, 128, 191)) := Lib.hid (by
      unfold letterP
      repeat' split
      all_goals first | rfl | (exfalso; omega))
    rw [HV.out]
    go_enter Tryz.func191, Tryz.ntmps191
    go_wp2
    all_goals first
      | (go_ret; exact ⟨rfl, rfl⟩)
      | (refine bodyPost_ret (results_tmp3 rfl _ _ _) rfl ⟨rfl, rfl⟩)
      | (exfalso; omega)
  · have HV : Hid (letterP s[0].toNat = (4, 144, 191)) := Lib.hid (by
      unfold letterP
      repeat' split
      all_goals first | rfl | (exfalso; omega))
    rw [HV.out]
    go_enter Tryz.func191, Tryz.ntmps191
    go_wp2
    all_goals first
      | (go_ret; exact ⟨rfl, rfl⟩)
      | (refine bodyPost_ret (results_tmp3 rfl _ _ _) rfl ⟨rfl, rfl⟩)
      | (exfalso; omega)
  · have HV : Hid (letterP s[0].toNat = (4, 128, 191)) := Lib.hid (by
      unfold letterP
      repeat' split
      all_goals first | rfl | (exfalso; omega))
    rw [HV.out]
    go_enter Tryz.func191, Tryz.ntmps191
    go_wp2
    all_goals first
      | (go_ret; exact ⟨rfl, rfl⟩)
      | (refine bodyPost_ret (results_tmp3 rfl _ _ _) rfl ⟨rfl, rfl⟩)
      | (exfalso; omega)
  · have HV : Hid (letterP s[0].toNat = (4, 128, 143)) := Lib.hid (by
      unfold letterP
      repeat' split
      all_goals first | rfl | (exfalso; omega))
    rw [HV.out]
    go_enter Tryz.func191, Tryz.ntmps191
    go_wp2
    all_goals first
      | (go_ret; exact ⟨rfl, rfl⟩)
      | (refine bodyPost_ret (results_tmp3 rfl _ _ _) rfl ⟨rfl, rfl⟩)
      | (exfalso; omega)
  · have HV : Hid (letterP s[0].toNat = (0, 0, 0)) := Lib.hid (by
      unfold letterP
      repeat' split
      all_goals first | rfl | (exfalso; omega))
    rw [HV.out]
    go_enter Tryz.func191, Tryz.ntmps191
    go_wp2
    all_goals first
      | (go_ret; exact ⟨rfl, rfl⟩)
      | (refine bodyPost_ret (results_tmp3 rfl _ _ _) rfl ⟨rfl, rfl⟩)
      | (exfalso; omega)
end Go.Proofs.YtigjingielnaoaaGreatDoor
namespace Go.Proofs.YtigjingielnaoaaGreatDoor
set_option linter.unusedVariables false
set_option linter.unusedSimpArgs false
set_option linter.unusedSectionVars false
open Go.RowKit
set_option linter.unusedVariables false

theorem tailOk_iff : ∀ (m : Nat) (lo hi : Nat) (l : List Nat), tailOk lo hi m l = true ↔ m ≤ l.length ∧ ∀ i x, i < m → l[i]? = some x → (if i = 0 then lo else 128) ≤ x ∧ x ≤ (if i = 0 then hi else 191)
  | 0, lo, hi, l => by simp [tailOk]
  | m + 1, lo, hi, [] => by simp [tailOk]
  | m + 1, lo, hi, b :: r => by
    simp only [tailOk, Bool.and_eq_true, decide_eq_true_eq, tailOk_iff m 128 191 r, List.length_cons]
    constructor
    · rintro ⟨⟨h1, h2⟩, h3, h4⟩
      refine ⟨by omega, fun i x hi hx => ?_⟩
      cases i with
      | zero => simp at hx; subst hx; exact ⟨h1, h2⟩
      | succ i =>
        have := h4 i x (by omega) (by simpa using hx)
        rw [if_neg (by omega), if_neg (by omega)]
        split at this <;> exact this
    · rintro ⟨h1, h2⟩
      refine ⟨by simpa using h2 0 b (by omega) (by simp), by omega, fun i x hi hx => ?_⟩
      have := h2 (i + 1) x (by omega) (by simpa using hx)
      rw [if_neg (by omega), if_neg (by omega)] at this
      split <;> exact this
section
variable {L : List Nat} {c n lo hi : Nat}
theorem utf_split (h0 : L[0]? = some c) (hp : letterP c = (n, lo, hi)) : utfP L = (decide (n ≠ 0) && tailOk lo hi (n - 1) L.tail && utfP (L.drop n)) ∨ n = 0 := by
  cases L with
  | nil => simp at h0
  | cons b r =>
    simp at h0; subst h0
    by_cases e : n = 0
    · exact .inr e
    · left
      rw [utfP_cons, hp]
      obtain ⟨m, rfl⟩ : ∃ m, n = m + 1 := ⟨n - 1, by omega⟩
      simp
theorem utf_zero (h0 : L[0]? = some c) (hp : letterP c = (0, lo, hi)) : utfP L = false := by
  cases L with
  | nil => simp at h0
  | cons b r =>
    simp at h0; subst h0
    rw [utfP_cons, hp]; simp
theorem utf_no (h0 : L[0]? = some c) (hp : letterP c = (n, lo, hi)) (h : tailOk lo hi (n - 1) L.tail = false) : utfP L = false := by
  rcases utf_split h0 hp with e | e
  · rw [e, h]; simp
  · subst e; exact utf_zero h0 hp
theorem utf_long (h0 : L[0]? = some c) (hp : letterP c = (n, lo, hi)) (h : L.length < n) : utfP L = false := by
  refine utf_no h0 hp ?_
  cases ht : tailOk lo hi (n - 1) L.tail with
  | false => rfl
  | true =>
    have := ((tailOk_iff _ _ _ _).1 ht).1
    have : 0 < L.length := by cases L with
      | nil => simp at h0
      | cons => simp
    simp at *; omega
theorem utf_bad (h0 : L[0]? = some c) (hp : letterP c = (n, lo, hi)) {i x : Nat} (hi1 : 1 ≤ i) (hin : i < n) (hx : L[i]? = some x) (h : ¬ ((if i = 1 then lo else 128) ≤ x ∧ x ≤ (if i = 1 then hi else 191))) : utfP L = false := by
  refine utf_no h0 hp ?_
  cases ht : tailOk lo hi (n - 1) L.tail with
  | false => rfl
  | true =>
    exfalso; apply h
    have := ((tailOk_iff _ _ _ _).1 ht).2 (i - 1) x (by omega) (by rw [List.getElem?_tail]; rw [show i - 1 + 1 = i by omega]; exact hx)
    by_cases e : i = 1
    · subst e; simpa using this
    · rw [if_neg (by omega), if_neg (by omega)] at this; rw [if_neg e, if_neg e]; exact this
theorem utf_yes (h0 : L[0]? = some c) (hp : letterP c = (n, lo, hi)) (hn : 1 ≤ n) (hl : n ≤ L.length) (h : ∀ i x, 1 ≤ i → i < n → L[i]? = some x → (if i = 1 then lo else 128) ≤ x ∧ x ≤ (if i = 1 then hi else 191)) : utfP L = utfP (L.drop n) := by
  rcases utf_split h0 hp with e | e
  · have ht : tailOk lo hi (n - 1) L.tail = true := by
      refine (tailOk_iff _ _ _ _).2 ⟨by simp; omega, fun i x hi hx => ?_⟩
      have := h (i + 1) x (by omega) (by omega) (by rw [List.getElem?_tail] at hx; exact hx)
      by_cases e : i = 0
      · subst e; simpa using this
      · rw [if_neg (by omega), if_neg (by omega)] at this; rw [if_neg e, if_neg e]; exact this
    rw [e, ht, decide_eq_true (by omega)]; simp
  · omega
end
theorem bytesOf_get? (s : ByteArray) (i : Nat) (h : i < s.size) : (bytesOf s)[i]? = some s[i].toNat := by
  rw [List.getElem?_eq_getElem (by rw [length_bytesOf]; exact h), bytesOf_get s i h]
theorem bytesOf_drop (s : ByteArray) (n : Nat) : bytesOf (s.extract n s.size) = (bytesOf s).drop n := by
  rw [bytesOf_extract, List.take_of_length_le (by rw [List.length_drop, length_bytesOf]; omega)]

theorem toList_nil (r : ByteArray) (h : r.size = 0) : r.toList = [] := by
  rw [ByteArray.toList_eq]; exact List.eq_nil_of_length_eq_zero (by rw [Array.length_toList]; exact h)
theorem toList_some (r : ByteArray) (h : 0 < r.size) : (!r.toList.isEmpty) = true := by
  rw [ByteArray.toList_eq]
  cases hh : r.data.toList with
  | nil =>
    exfalso
    have h1 : r.data.toList.length = r.size := by rw [Array.length_toList]; rfl
    rw [hh] at h1; simp at h1; omega
  | cons => rfl
set_option maxRecDepth 100000 in
set_option maxHeartbeats 4000000 in
theorem letters_any (s : ByteArray) (w : World) (hs : s.size ≤ 9223372036854775807) : Calls Tryz.prog 149 #[.string s] w fun e w' => e = .returned (.bool (utfP (bytesOf s))) ∧ w = w' := by
  go_enter Tryz.func149, Tryz.ntmps149
  go_wp2
  go_loopg [0] s.size (fun g t wr => ∃ r : ByteArray, t = .string r ∧ g = r.size ∧ r.size ≤ s.size ∧ Hid (utfP (bytesOf s) = utfP (bytesOf r)) ∧ w = wr)
  case atStart => exact ⟨s, rfl, rfl, Nat.le_refl _, Lib.hid rfl, rfl⟩
  case round =>
    obtain ⟨r, rfl, rfl, hrs, HU, rfl⟩ := hrel
    by_cases hz : r.size = 0
    · have hE : utfP (bytesOf r) = true := by
        have e0 : bytesOf r = [] := List.eq_nil_of_length_eq_zero (by rw [length_bytesOf]; exact hz)
        rw [e0]; rfl
      have HE := Lib.hid (HU.out.trans hE)
      have e2 : (!r.toList.isEmpty) = false := by rw [toList_nil r hz]; rfl
      clear hE HU hz
      go_wp2
      go_ret
      exact ⟨by rw [HE.out]; rfl, rfl⟩
    · have hpos : 0 < r.size := by omega
      have hr1 : r.size ≤ 9223372036854775807 := by omega
      have e2 : (!r.toList.isEmpty) = true := toList_some r hpos
      have HL := Lib.hid (fun w => letter_any r w hpos hr1)
      have hg0 := bytesOf_get? r 0 hpos
      have hle := letterP_le r[0].toNat
      obtain ⟨⟨n, lo, hi⟩, hp⟩ : ∃ p, letterP r[0].toNat = p := ⟨_, rfl⟩
      rw [hp] at HL hle
      have HP := Lib.hid hp
      have HG := Lib.hid hg0
      unfold letV at HL
      dsimp only at HL hle
      clear hz hp hg0
      by_cases c0 : n = 0
      · subst c0
        have HE := Lib.hid (HU.out.trans (utf_zero HG.out HP.out))
        clear HU HG HP hrs
        go_wp2_with (go_at_call 191; refine (HL.out _).mono ?_; rintro e w' ⟨rfl, rfl⟩)
        go_ret
        exact ⟨by rw [HE.out]; rfl, rfl⟩
      · have t0 : ((n : Int) == 0) = false := by rw [beq_eq_false_iff_ne]; omega
        by_cases c1 : r.size < n
        · have HE := Lib.hid (HU.out.trans (utf_long HG.out HP.out (by rw [length_bytesOf]; exact c1)))
          clear HU HG HP hrs
          go_wp2_with (go_at_call 191; refine (HL.out _).mono ?_; rintro e w' ⟨rfl, rfl⟩)
          go_ret
          exact ⟨by rw [HE.out]; rfl, rfl⟩
        · have hn1 : 1 ≤ n := by omega
          have hnr : n ≤ r.size := by omega
          have t1 : decide (r.size < n) = false := decide_eq_false c1
          by_cases c2 : 2 ≤ n
          · have h1r : 1 < r.size := by omega
            have HG1 := Lib.hid (bytesOf_get? r 1 h1r)
            have t2 : decide (1 < n) = true := decide_eq_true (by omega)
            by_cases c3 : lo ≤ r[1].toNat ∧ r[1].toNat ≤ hi
            · have HS2 : Hid (∀ x, 1 < n → (bytesOf r)[1]? = some x → lo ≤ x ∧ x ≤ hi) := Lib.hid (fun x _ h => by rw [HG1.out] at h; simp at h; subst h; exact c3)
              have t3 : decide (r[1].toNat < lo) = false := decide_eq_false (by omega)
              have t4 : decide (hi < r[1].toNat) = false := decide_eq_false (by omega)
              clear c3 HG1
              go_wp2_with (go_at_call 191; refine (HL.out _).mono ?_; rintro e w' ⟨rfl, rfl⟩)
              clear HL
              go_loopg [6] (n - 2) (fun g t wr => ∃ j : Nat, t = .int .i64 (j : Nat) ∧ 2 ≤ j ∧ j ≤ n + 1 ∧ g = n - j ∧ Hid (∀ i x, 2 ≤ i → i < j → (bytesOf r)[i]? = some x → 128 ≤ x ∧ x ≤ 191) ∧ w = wr)
              case atStart => exact ⟨2, rfl, Nat.le_refl _, by omega, rfl, Lib.hid (fun i x h1 h2 => by omega), rfl⟩
              case round =>
                obtain ⟨j, rfl, hj2, hjn, rfl, HA, rfl⟩ := hrel
                by_cases cj : j < n
                · have hjr : j < r.size := by omega
                  have HGJ := Lib.hid (bytesOf_get? r j hjr)
                  by_cases cb : 128 ≤ r[j].toNat ∧ r[j].toNat ≤ 191
                  · have t5 : decide ((r[j].toNat : Int) < 128) = false := decide_eq_false (by omega)
                    have t6 : decide (191 < (r[j].toNat : Int)) = false := decide_eq_false (by omega)
                    have HA2 : Hid (∀ i x, 2 ≤ i → i < j + 1 → (bytesOf r)[i]? = some x → 128 ≤ x ∧ x ≤ 191) := Lib.hid (fun i x h1 h2 h3 => by
                      by_cases e : i = j
                      · subst e; rw [HGJ.out] at h3; simp at h3; omega
                      · exact HA.out i x h1 (by omega) h3)
                    clear HA HGJ cb
                    go_wp2
                    go_roundg (n - (j + 1))
                    all_goals first
                      | omega
                      | exact ⟨j + 1, by go_num, by omega, by omega, rfl, HA2, rfl⟩
                  · have HE := Lib.hid (HU.out.trans (utf_bad HG.out HP.out (i := j) (by omega) (by omega) HGJ.out (by rw [if_neg (by omega), if_neg (by omega)]; exact cb)))
                    clear HA HGJ HU HG HP HS2
                    by_cases cl : r[j].toNat < 128
                    · have t5 : decide ((r[j].toNat : Int) < 128) = true := decide_eq_true (by omega)
                      clear cb
                      go_wp2
                      go_ret
                      exact ⟨by rw [HE.out]; rfl, rfl⟩
                    · have t5 : decide ((r[j].toNat : Int) < 128) = false := decide_eq_false (by omega)
                      have t6 : decide (191 < (r[j].toNat : Int)) = true := decide_eq_true (by omega)
                      clear cb
                      go_wp2
                      go_ret
                      exact ⟨by rw [HE.out]; rfl, rfl⟩
                · have hlen := length_bytesOf r
                  have HE := Lib.hid (HU.out.trans (utf_yes HG.out HP.out hn1 (by omega) (fun i x h1 h2 h3 => by
                    by_cases e : i = 1
                    · subst e; rw [if_pos rfl, if_pos rfl]; exact HS2.out x (by omega) h3
                    · rw [if_neg e, if_neg e]; exact HA.out i x (by omega) (by omega) h3)))
                  have HSZ : Hid ((r.extract n r.size).size = r.size - n) := Lib.hid (by rw [ByteArray.size_extract]; omega)
                  rw [← bytesOf_drop] at HE
                  clear HA HU HG HP HS2 hlen
                  go_wp2
                  go_roundg (r.size - n)
                  all_goals first
                    | omega
                    | exact ⟨r.extract n r.size, rfl, HSZ.out.symm, by rw [HSZ.out]; omega, HE, rfl⟩
            · have HE := Lib.hid (HU.out.trans (utf_bad HG.out HP.out (i := 1) (by omega) (by omega) HG1.out (by simpa using c3)))
              clear HU HG HP HG1 hrs
              by_cases c4 : r[1].toNat < lo
              · have t3 : decide (r[1].toNat < lo) = true := decide_eq_true c4
                clear c3
                go_wp2_with (go_at_call 191; refine (HL.out _).mono ?_; rintro e w' ⟨rfl, rfl⟩)
                go_ret
                exact ⟨by rw [HE.out]; rfl, rfl⟩
              · have t3 : decide (r[1].toNat < lo) = false := decide_eq_false c4
                have t4 : decide (hi < r[1].toNat) = true := decide_eq_true (by omega)
                clear c3
                go_wp2_with (go_at_call 191; refine (HL.out _).mono ?_; rintro e w' ⟨rfl, rfl⟩)
                go_ret
                exact ⟨by rw [HE.out]; rfl, rfl⟩
          · have t2 : decide (1 < n) = false := decide_eq_false (by omega)
            have HS2 : Hid (∀ x, 1 < n → (bytesOf r)[1]? = some x → lo ≤ x ∧ x ≤ hi) := Lib.hid (fun x h _ => by omega)
            go_wp2_with (go_at_call 191; refine (HL.out _).mono ?_; rintro e w' ⟨rfl, rfl⟩)
            clear HL
            go_loopg [6] (n - 2) (fun g t wr => ∃ j : Nat, t = .int .i64 (j : Nat) ∧ 2 ≤ j ∧ j ≤ n + 1 ∧ g = n - j ∧ Hid (∀ i x, 2 ≤ i → i < j → (bytesOf r)[i]? = some x → 128 ≤ x ∧ x ≤ 191) ∧ w = wr)
            case atStart => exact ⟨2, rfl, Nat.le_refl _, by omega, rfl, Lib.hid (fun i x h1 h2 => by omega), rfl⟩
            case round =>
              obtain ⟨j, rfl, hj2, hjn, rfl, HA, rfl⟩ := hrel
              by_cases cj : j < n
              · have hjr : j < r.size := by omega
                have HGJ := Lib.hid (bytesOf_get? r j hjr)
                by_cases cb : 128 ≤ r[j].toNat ∧ r[j].toNat ≤ 191
                · have t5 : decide ((r[j].toNat : Int) < 128) = false := decide_eq_false (by omega)
                  have t6 : decide (191 < (r[j].toNat : Int)) = false := decide_eq_false (by omega)
                  have HA2 : Hid (∀ i x, 2 ≤ i → i < j + 1 → (bytesOf r)[i]? = some x → 128 ≤ x ∧ x ≤ 191) := Lib.hid (fun i x h1 h2 h3 => by
                    by_cases e : i = j
                    · subst e; rw [HGJ.out] at h3; simp at h3; omega
                    · exact HA.out i x h1 (by omega) h3)
                  clear HA HGJ cb
                  go_wp2
                  go_roundg (n - (j + 1))
                  all_goals first
                    | omega
                    | exact ⟨j + 1, by go_num, by omega, by omega, rfl, HA2, rfl⟩
                · have HE := Lib.hid (HU.out.trans (utf_bad HG.out HP.out (i := j) (by omega) (by omega) HGJ.out (by rw [if_neg (by omega), if_neg (by omega)]; exact cb)))
                  clear HA HGJ HU HG HP HS2
                  by_cases cl : r[j].toNat < 128
                  · have t5 : decide ((r[j].toNat : Int) < 128) = true := decide_eq_true (by omega)
                    clear cb
                    go_wp2
                    go_ret
                    exact ⟨by rw [HE.out]; rfl, rfl⟩
                  · have t5 : decide ((r[j].toNat : Int) < 128) = false := decide_eq_false (by omega)
                    have t6 : decide (191 < (r[j].toNat : Int)) = true := decide_eq_true (by omega)
                    clear cb
                    go_wp2
                    go_ret
                    exact ⟨by rw [HE.out]; rfl, rfl⟩
              · have hlen := length_bytesOf r
                have HE := Lib.hid (HU.out.trans (utf_yes HG.out HP.out hn1 (by omega) (fun i x h1 h2 h3 => by
                  by_cases e : i = 1
                  · subst e; rw [if_pos rfl, if_pos rfl]; exact HS2.out x (by omega) h3
                  · rw [if_neg e, if_neg e]; exact HA.out i x (by omega) (by omega) h3)))
                have HSZ : Hid ((r.extract n r.size).size = r.size - n) := Lib.hid (by rw [ByteArray.size_extract]; omega)
                rw [← bytesOf_drop] at HE
                clear HA HU HG HP HS2 hlen
                go_wp2
                go_roundg (r.size - n)
                all_goals first
                  | omega
                  | exact ⟨r.extract n r.size, rfl, HSZ.out.symm, by rw [HSZ.out]; omega, HE, rfl⟩
end Go.Proofs.YtigjingielnaoaaGreatDoor
namespace Go.Proofs.YtigjingielnaoaaGreatDoor
set_option linter.unusedVariables false
set_option linter.unusedSimpArgs false
set_option linter.unusedSectionVars false
open Go.RowKit
set_option linter.unusedVariables false
set_option linter.unusedSimpArgs false

theorem or_u32c (a b : Nat) (ha : a < 4294967296) (hb : b < 4294967296) : bits .or .u32 (a : Int) (b : Int) = ((a ||| b : Nat) : Int) := by
  show IntKind.u32.wrap ((BitVec.ofInt 32 (a : Int) ||| BitVec.ofInt 32 (b : Int)).toNat : Int) = _
  rw [BitVec.toNat_or, ofInt_nat 32 a (by omega), ofInt_nat 32 b (by omega)]
  have := Nat.or_lt_two_pow (n := 32) ha hb
  show ((a ||| b : Nat) : Int) % 4294967296 = _
  omega
theorem or_add (a b k : Nat) (hb : b < 2 ^ k) : 2 ^ k * a ||| b = 2 ^ k * a + b := (Nat.two_pow_add_eq_or_of_lt hb a).symm
/-- A time of parts that may be. -/
def ofN (y mo d h mi s : Nat) : Nat := (y - 1980) * 33554432 + mo * 2097152 + d * 65536 + h * 2048 + mi * 32 + s / 2
theorem rightG_nat {y mo d h mi s : Int} (hr : rightG y mo d h mi s = true) : ∃ yn mn dn hn ni sn : Nat, y = yn ∧ mo = mn ∧ d = dn ∧ h = hn ∧ mi = ni ∧ s = sn ∧ 1980 ≤ yn ∧ yn ≤ 2107 ∧ mn ≤ 12 ∧ dn ≤ 31 ∧ hn < 24 ∧ ni < 60 ∧ sn < 60 := by
  unfold rightG at hr
  simp only [Bool.and_eq_true, decide_eq_true_eq] at hr
  obtain ⟨⟨⟨⟨⟨d1, d2⟩, h0, h1⟩, i0, i1⟩, s0, s1⟩, s2⟩ := hr
  unfold daysG daysN at d2
  have hy : 1980 ≤ y ∧ y ≤ 2107 := by
    by_cases e : y < 1980 ∨ 2107 < y
    · rw [if_pos e] at d2; omega
    · omega
  rw [if_neg (by omega)] at d2
  have hm : 1 ≤ mo ∧ mo ≤ 12 := by
    by_cases e : mo < 1 ∨ 12 < mo
    · rw [if_pos e] at d2; omega
    · omega
  have hd : d ≤ 31 := by
    repeat' split at d2
    all_goals omega
  exact ⟨y.toNat, mo.toNat, d.toNat, h.toNat, mi.toNat, s.toNat, by omega, by omega, by omega, by omega, by omega, by omega, by omega, by omega, by omega, by omega, by omega, by omega, by omega⟩
def ofV (y mo d h mi s : Int) : Value := if rightG y mo d h mi s = true then .tuple #[.int .u32 (ofN y.toNat mo.toNat d.toNat h.toNat mi.toNat s.toNat : Nat), .bool true] else .tuple #[.int .u32 0, .bool false]
set_option maxRecDepth 100000 in
set_option maxHeartbeats 3200000 in
theorem dosOf_any (y mo d h mi s : Int) (w : World) : Calls Tryz.prog 144 #[.agg #[.int .i64 y, .int .i64 mo, .int .i64 d, .int .i64 h, .int .i64 mi, .int .i64 s]] w fun e w' => e = .returned (ofV y mo d h mi s) ∧ Upd [] w w' := by
  have HR := Lib.hid (fun w => dright_gen y mo d h mi s w)
  cases hr : rightG y mo d h mi s with
  | false =>
    have HV : Hid (ofV y mo d h mi s = .tuple #[.int .u32 0, .bool false]) := Lib.hid (by unfold ofV; rw [hr]; rfl)
    rw [hr] at HR
    clear hr
    go_enter Tryz.func144, Tryz.ntmps144
    go_wp2_with fail
    refine (HR.out _).mono ?_
    rintro e w1 ⟨rfl, hu1⟩
    go_wp2
    go_ret2
    exact ⟨by rw [HV.out]; rfl, ((Upd.refl [] w).alloc _).then hu1⟩
  | true =>
    have HV : Hid (ofV y mo d h mi s = .tuple #[.int .u32 (ofN y.toNat mo.toNat d.toNat h.toNat mi.toNat s.toNat : Nat), .bool true]) := Lib.hid (by unfold ofV; rw [hr]; rfl)
    rw [hr] at HR
    obtain ⟨yn, mn, dn, hn, ni, sn, rfl, rfl, rfl, rfl, rfl, rfl, c1, c2, c3, c4, c5, c6, c7⟩ := rightG_nat hr
    clear hr
    simp only [Int.toNat_natCast] at HV
    have hB := Blk.new w [.int .i64 (yn : Nat), .int .i64 (mn : Nat), .int .i64 (dn : Nat), .int .i64 (hn : Nat), .int .i64 (ni : Nat), .int .i64 (sn : Nat)] 148
    have HB := Lib.hid hB
    clear hB
    go_enter Tryz.func144, Tryz.ntmps144
    go_wp2_with fail
    refine (HR.out _).mono ?_
    rintro e w1 ⟨rfl, hu1⟩
    have hB1 := HB.out.upd hu1 (by simp)
    have HU1 := Lib.hid (((Upd.refl [] w).alloc (.cells #[.int .i64 (yn : Nat), .int .i64 (mn : Nat), .int .i64 (dn : Nat), .int .i64 (hn : Nat), .int .i64 (ni : Nat), .int .i64 (sn : Nat)] 148)).then hu1)
    have g0 := hB1.cell 0 rfl
    have g1 := hB1.cell 1 rfl
    have g2 := hB1.cell 2 rfl
    have g3 := hB1.cell 3 rfl
    have g4 := hB1.cell 4 rfl
    have g5 := hB1.cell 5 rfl
    clear hB1 hu1 HB
    obtain ⟨an, rfl⟩ : ∃ a : Nat, yn = 1980 + a := ⟨yn - 1980, by omega⟩
    go_wp2
    go_ret2
    refine ⟨?_, HU1.out⟩
    rw [HV.out]
    have o1 : bits .or .u32 ((1980 + (an : Int) - 1980) * 33554432) ((mn : Int) * 2097152) = ((2 ^ 25 * an + mn * 2097152 : Nat) : Int) := by
      rw [show (1980 + (an : Int) - 1980) * 33554432 = ((2 ^ 25 * an : Nat) : Int) by omega, show (mn : Int) * 2097152 = ((mn * 2097152 : Nat) : Int) by omega, or_u32c _ _ (by omega) (by omega), or_add _ _ 25 (by omega)]
    have o2 : bits .or .u32 ((2 ^ 25 * an + mn * 2097152 : Nat) : Int) ((dn : Int) * 65536) = ((2 ^ 21 * (16 * an + mn) + dn * 65536 : Nat) : Int) := by
      rw [show (dn : Int) * 65536 = ((dn * 65536 : Nat) : Int) by omega, or_u32c _ _ (by omega) (by omega), show 2 ^ 25 * an + mn * 2097152 = 2 ^ 21 * (16 * an + mn) by omega, or_add _ _ 21 (by omega)]
    have o3 : bits .or .u32 ((2 ^ 21 * (16 * an + mn) + dn * 65536 : Nat) : Int) ((hn : Int) * 2048) = ((2 ^ 16 * (32 * (16 * an + mn) + dn) + hn * 2048 : Nat) : Int) := by
      rw [show (hn : Int) * 2048 = ((hn * 2048 : Nat) : Int) by omega, or_u32c _ _ (by omega) (by omega), show 2 ^ 21 * (16 * an + mn) + dn * 65536 = 2 ^ 16 * (32 * (16 * an + mn) + dn) by omega, or_add _ _ 16 (by omega)]
    have o4 : bits .or .u32 ((2 ^ 16 * (32 * (16 * an + mn) + dn) + hn * 2048 : Nat) : Int) ((ni : Int) * 32) = ((2 ^ 11 * (32 * (32 * (16 * an + mn) + dn) + hn) + ni * 32 : Nat) : Int) := by
      rw [show (ni : Int) * 32 = ((ni * 32 : Nat) : Int) by omega, or_u32c _ _ (by omega) (by omega), show 2 ^ 16 * (32 * (16 * an + mn) + dn) + hn * 2048 = 2 ^ 11 * (32 * (32 * (16 * an + mn) + dn) + hn) by omega, or_add _ _ 11 (by omega)]
    have o5 : bits .or .u32 ((2 ^ 11 * (32 * (32 * (16 * an + mn) + dn) + hn) + ni * 32 : Nat) : Int) ((sn : Int) / 2) = ((ofN (1980 + an) mn dn hn ni sn : Nat) : Int) := by
      rw [show (sn : Int) / 2 = ((sn / 2 : Nat) : Int) by omega, or_u32c _ _ (by omega) (by omega), show 2 ^ 11 * (32 * (32 * (16 * an + mn) + dn) + hn) + ni * 32 = 2 ^ 5 * (64 * (32 * (32 * (16 * an + mn) + dn) + hn) + ni) by omega, or_add _ _ 5 (by omega)]
      unfold ofN
      congr 1
      omega
    show Ending.returned (.tuple #[.int .u32 (bits .or .u32 (bits .or .u32 (bits .or .u32 (bits .or .u32 (bits .or .u32 ((1980 + (an : Int) - 1980) * 33554432) ((mn : Int) * 2097152)) ((dn : Int) * 65536)) ((hn : Int) * 2048)) ((ni : Int) * 32)) ((sn : Int) / 2)), .bool true]) = _
    rw [o1, o2, o3, o4, o5]
/-- The number of digits (whatever signs they are). -/
def numD (l : List Nat) : Int := l.foldl (fun (n : Int) (c : Nat) => 10 * n + (c : Int) - 48) (0 : Int)
theorem numD_snoc (l : List Nat) (c : Nat) : numD (l ++ [c]) = 10 * numD l + (c : Int) - 48 := by unfold numD; rw [List.foldl_append]; rfl
theorem numD_bd : ∀ (n : Nat) (l : List Nat), l.length = n → (∀ x ∈ l, x < 256) → -(6 * ((10 : Int) ^ n - 1)) ≤ numD l ∧ numD l ≤ 30 * ((10 : Int) ^ n - 1)
  | 0, l, h, _ => by rw [List.eq_nil_of_length_eq_zero h]; simp [numD]
  | n + 1, l, h, hl => by
    rcases List.eq_nil_or_concat l with rfl | ⟨L, c, rfl⟩
    · simp at h
    · rw [List.concat_eq_append] at h hl ⊢
      have hLn : L.length = n := by rw [List.length_append] at h; simp at h; exact h
      have ih := numD_bd n L hLn (fun x hx => hl x (List.mem_append_left _ hx))
      have hc := hl c (by simp)
      rw [numD_snoc, Int.pow_succ]
      generalize (10 : Int) ^ n = T at *
      generalize numD L = N at *
      omega
theorem upd_bytesWorld (w : World) (e : TypeId) (s : ByteArray) : Upd [] w (Lib.bytesWorld w e s) := by
  refine ⟨rfl, rfl, rfl, by rw [Lib.bytesWorld_size]; omega, fun k hk _ => Lib.bytesWorld_at_old w e s k hk⟩
set_option maxRecDepth 100000 in
set_option maxHeartbeats 1600000 in
theorem parse1_any (S : ByteArray) (a b g : Nat) (w : World) (hg : w.cell? ⟨g, 0, none⟩ = some (.string S)) (hab : a ≤ b) (hb : b ≤ S.size) (h4 : b - a ≤ 4) :
    Calls Tryz.prog 143 #[.int .i64 (a : Nat), .int .i64 (b : Nat), .pointer (some ⟨g, 0, none⟩)] w fun e w' => e = .returned (.int .i64 (numD (((bytesOf S).drop a).take (b - a)))) ∧ Upd [] w w' := by
  have hz0 : (0 : Int) ≤ (a : Int) := by omega
  have hz1 : (a : Int) ≤ (b : Int) := by omega
  have hz2 : (b : Int) ≤ (S.size : Int) := by omega
  have hcv := fun w => Lib.run_convert_string_bytes (P := Tryz.prog) w 9 87 5 (S.extract a b) Tryz.underlying9 Tryz.underlying87 Tryz.underlying5
  have HU := Lib.hid (upd_bytesWorld w 5 (S.extract a b))
  have HC := Lib.hid (fun j hj => Lib.bytesWorld_cell w 5 (S.extract a b) j hj)
  have hXb : Hid (bytesOf (S.extract a b) = ((bytesOf S).drop a).take (b - a)) := Lib.hid (bytesOf_extract S a b)
  have hXs : (S.extract a b).size = b - a := by rw [ByteArray.size_extract]; omega
  have hXb2 := hXb.out
  obtain ⟨V, hV⟩ : ∃ V, ((bytesOf S).drop a).take (b - a) = V := ⟨_, rfl⟩
  rw [hV] at hXb2 ⊢
  have HXV := Lib.hid hXb2
  clear hXb hXb2 hV
  have hXs4 : (S.extract a b).size ≤ 4 := by omega
  have HSZ := Lib.hid hXs
  clear hXs
  go_enter Tryz.func143, Tryz.ntmps143
  go_wp2
  generalize S.extract a b = X at *
  generalize hw1 : Lib.bytesWorld w 5 X = w1 at *
  clear hcv hw1
  generalize w.heap.size = q0 at *
  generalize b - a = m at *
  go_loopg [5, 14] m (fun gg s5 s14 wr => ∃ i, i ≤ m ∧ gg = m - i ∧ s14 = .int .i64 (i : Nat) ∧ s5 = .int .i64 (numD ((bytesOf X).take i)) ∧ Hid (wr = w1))
  case atStart => exact ⟨0, Nat.zero_le _, rfl, rfl, rfl, Lib.hid rfl⟩
  case round =>
    obtain ⟨i, hin, rfl, rfl, rfl, HW⟩ := hrel
    have hwr := HW.out.symm
    subst hwr
    clear HW
    by_cases hc : i < m
    · have hcz : (i : Int) < (m : Int) := by omega
      have hXm := HSZ.out
      have hcX : i < X.size := by omega
      have hbl := length_bytesOf X
      have hil : i < (bytesOf X).length := by omega
      have hce := HC.out i hcX
      have hge : (X.data.toList.getD i 0).toNat = (bytesOf X)[i] := by
        have h1 : i < X.data.toList.length := by simpa using hcX
        rw [bytesOf_get X i hcX hil, List.getD, List.getElem?_eq_getElem h1]; rfl
      have hT : Hid ((bytesOf X).take (i + 1) = (bytesOf X).take i ++ [(bytesOf X)[i]]) := Lib.hid (List.take_succ_eq_append_getElem hil)
      rw [hge] at hce
      have hlt := bytesOf_lt X _ (List.getElem_mem hil)
      have hbd := numD_bd _ ((bytesOf X).take i) rfl (fun x hx => bytesOf_lt X x (List.mem_of_mem_take hx))
      have hpw : (10 : Int) ^ ((bytesOf X).take i).length ≤ 1000 := by
        have : ((bytesOf X).take i).length ≤ 3 := by rw [List.length_take]; omega
        rcases (by omega : ((bytesOf X).take i).length = 0 ∨ ((bytesOf X).take i).length = 1 ∨ ((bytesOf X).take i).length = 2 ∨ ((bytesOf X).take i).length = 3) with e | e | e | e <;> rw [e] <;> decide
      have HSN : Hid (numD ((bytesOf X).take (i + 1)) = 10 * numD ((bytesOf X).take i) + ((bytesOf X)[i] : Nat) - 48) := Lib.hid (by rw [hT.out, numD_snoc])
      generalize (bytesOf X)[i] = c at *
      generalize numD ((bytesOf X).take i) = N at *
      have hN1 : -6000 ≤ N := by omega
      have hN2 : N ≤ 30000 := by omega
      clear hbd hpw hge hT hbl hil hXm
      go_wp2
      go_roundg (m - (i + 1))
      · exact ⟨i + 1, by omega, rfl, by first | rfl | go_num, by rw [HSN.out], Lib.hid rfl⟩
      · omega
    · have hcz : ¬ (i : Int) < (m : Int) := by omega
      have hix : i = m := by omega
      have HT : Hid ((bytesOf X).take i = bytesOf X) := Lib.hid (List.take_of_length_le (by rw [length_bytesOf]; have := HSZ.out; omega))
      rw [HT.out, HXV.out]
      go_wp2
      go_ret
      exact ⟨rfl, HU.out⟩
end Go.Proofs.YtigjingielnaoaaGreatDoor
