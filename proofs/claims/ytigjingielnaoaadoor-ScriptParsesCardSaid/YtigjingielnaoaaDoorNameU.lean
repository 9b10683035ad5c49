/- Package name: letters. -/
import Derived.Outline
import Derived.LoopTactic
import Derived.Test.YtigjingielnaoaaDoorProg
import Derived.Test.YtigjingielnaoaaDoorQAG
namespace Go.Proofs.YtigjingielnaoaaDoor
set_option linter.unusedVariables false
set_option linter.unusedSimpArgs false
set_option linter.unusedSectionVars false
open Go.RowKit
set_option linter.unusedVariables false

theorem tailOk_iff : ∀ (m : Nat) (lo hi : Nat) (l : List Nat), tailOk lo hi m l = true ↔ m ≤ l.length ∧ ∀ i x, i < m → l[i]? = some x → (if i = 0 then lo else 128) ≤ x ∧ x ≤ (if i = 0 then hi else 191)
  | 0, lo, hi, l => by simp [tailOk]
  | m + 1, lo, hi, [] => by simp [tailOk]
  | m + 1, lo, hi, b :: r => by
    simp only [tailOk, Bool.and_eq_true, decide_eq_true_eq, tailOk_iff m 128 191 r, List.length_cons]
    constructor
    · rintro ⟨⟨h1, h2⟩, h3, h4⟩
      refine ⟨by omega, fun i x hi hx => ?_⟩
      cases i with
      | zero => simp at hx; subst hx; exact ⟨h1, h2⟩
      | succ i =>
        have := h4 i x (by omega) (by simpa using hx)
        rw [if_neg (by omega), if_neg (by omega)]
        split at this <;> exact this
    · rintro ⟨h1, h2⟩
      refine ⟨by simpa using h2 0 b (by omega) (by simp), by omega, fun i x hi hx => ?_⟩
      have := h2 (i + 1) x (by omega) (by simpa using hx)
      rw [if_neg (by omega), if_neg (by omega)] at this
      split <;> exact this
section
variable {L : List Nat} {c n lo hi : Nat}
theorem utf_split (h0 : L[0]? = some c) (hp : letterP c = (n, lo, hi)) : utfP L = (decide (n ≠ 0) && tailOk lo hi (n - 1) L.tail && utfP (L.drop n)) ∨ n = 0 := by
  cases L with
  | nil => simp at h0
  | cons b r =>
    simp at h0; subst h0
    by_cases e : n = 0
    · exact .inr e
    · left
      rw [utfP_cons, hp]
      obtain ⟨m, rfl⟩ : ∃ m, n = m + 1 := ⟨n - 1, by omega⟩
      simp
theorem utf_zero (h0 : L[0]? = some c) (hp : letterP c = (0, lo, hi)) : utfP L = false := by
  cases L with
  | nil => simp at h0
  | cons b r =>
    simp at h0; subst h0
    rw [utfP_cons, hp]; simp
theorem utf_no (h0 : L[0]? = some c) (hp : letterP c = (n, lo, hi)) (h : tailOk lo hi (n - 1) L.tail = false) : utfP L = false := by
  rcases utf_split h0 hp with e | e
  · rw [e, h]; simp
  · subst e; exact utf_zero h0 hp
theorem utf_long (h0 : L[0]? = some c) (hp : letterP c = (n, lo, hi)) (h : L.length < n) : utfP L = false := by
  refine utf_no h0 hp ?_
  cases ht : tailOk lo hi (n - 1) L.tail with
  | false => rfl
  | true =>
    have := ((tailOk_iff _ _ _ _).1 ht).1
    have : 0 < L.length := by cases L with
      | nil => simp at h0
      | cons => simp
    simp at *; omega
theorem utf_bad (h0 : L[0]? = some c) (hp : letterP c = (n, lo, hi)) {i x : Nat} (hi1 : 1 ≤ i) (hin : i < n) (hx : L[i]? = some x) (h : ¬ ((if i = 1 then lo else 128) ≤ x ∧ x ≤ (if i = 1 then hi else 191))) : utfP L = false := by
  refine utf_no h0 hp ?_
  cases ht : tailOk lo hi (n - 1) L.tail with
  | false => rfl
  | true =>
    exfalso; apply h
    have := ((tailOk_iff _ _ _ _).1 ht).2 (i - 1) x (by omega) (by rw [List.getElem?_tail]; rw [show i - 1 + 1 = i by omega]; exact hx)
    by_cases e : i = 1
    · subst e; simpa using this
    · rw [if_neg (by omega), if_neg (by omega)] at this; rw [if_neg e, if_neg e]; exact this
theorem utf_yes (h0 : L[0]? = some c) (hp : letterP c = (n, lo, hi)) (hn : 1 ≤ n) (hl : n ≤ L.length) (h : ∀ i x, 1 ≤ i → i < n → L[i]? = some x → (if i = 1 then lo else 128) ≤ x ∧ x ≤ (if i = 1 then hi else 191)) : utfP L = utfP (L.drop n) := by
  rcases utf_split h0 hp with e | e
  · have ht : tailOk lo hi (n - 1) L.tail = true := by
      refine (tailOk_iff _ _ _ _).2 ⟨by simp; omega, fun i x hi hx => ?_⟩
      have := h (i + 1) x (by omega) (by omega) (by rw [List.getElem?_tail] at hx; exact hx)
      by_cases e : i = 0
      · subst e; simpa using this
      · rw [if_neg (by omega), if_neg (by omega)] at this; rw [if_neg e, if_neg e]; exact this
    rw [e, ht, decide_eq_true (by omega)]; simp
  · omega
end
theorem bytesOf_get? (s : ByteArray) (i : Nat) (h : i < s.size) : (bytesOf s)[i]? = some s[i].toNat := by
  rw [List.getElem?_eq_getElem (by rw [length_bytesOf]; exact h), bytesOf_get s i h]
theorem bytesOf_drop (s : ByteArray) (n : Nat) : bytesOf (s.extract n s.size) = (bytesOf s).drop n := by
  rw [bytesOf_extract, List.take_of_length_le (by rw [List.length_drop, length_bytesOf]; omega)]

theorem toList_nil (r : ByteArray) (h : r.size = 0) : r.toList = [] := by
  rw [ByteArray.toList_eq]; exact List.eq_nil_of_length_eq_zero (by rw [Array.length_toList]; exact h)
theorem toList_some (r : ByteArray) (h : 0 < r.size) : (!r.toList.isEmpty) = true := by
  rw [ByteArray.toList_eq]
  cases hh : r.data.toList with
  | nil =>
    exfalso
    have h1 : r.data.toList.length = r.size := by rw [Array.length_toList]; rfl
    rw [hh] at h1; simp at h1; omega
  | cons => rfl
set_option maxRecDepth 100000 in
set_option maxHeartbeats 4000000 in
theorem letters_any (s : ByteArray) (w : World) (hs : s.size ≤ 9223372036854775807) : Calls Tryd.prog 116 #[.string s] w fun e w' => e = .returned (.bool (utfP (bytesOf s))) ∧ w = w' := by
  go_enter Tryd.func116, Tryd.ntmps116
  go_wp2
  go_loopg [0] s.size (fun g t wr => ∃ r : ByteArray, t = .string r ∧ g = r.size ∧ r.size ≤ s.size ∧ Hid (utfP (bytesOf s) = utfP (bytesOf r)) ∧ w = wr)
  case atStart => exact ⟨s, rfl, rfl, Nat.le_refl _, Lib.hid rfl, rfl⟩
  case round =>
    obtain ⟨r, rfl, rfl, hrs, HU, rfl⟩ := hrel
    by_cases hz : r.size = 0
    · have hE : utfP (bytesOf r) = true := by
        have e0 : bytesOf r = [] := List.eq_nil_of_length_eq_zero (by rw [length_bytesOf]; exact hz)
        rw [e0]; rfl
      have HE := Lib.hid (HU.out.trans hE)
      have e2 : (!r.toList.isEmpty) = false := by rw [toList_nil r hz]; rfl
      clear hE HU hz
      go_wp2
      go_ret
      exact ⟨by rw [HE.out]; rfl, rfl⟩
    · have hpos : 0 < r.size := by omega
      have hr1 : r.size ≤ 9223372036854775807 := by omega
      have e2 : (!r.toList.isEmpty) = true := toList_some r hpos
      have HL := Lib.hid (fun w => letter_any r w hpos hr1)
      have hg0 := bytesOf_get? r 0 hpos
      have hle := letterP_le r[0].toNat
      obtain ⟨⟨n, lo, hi⟩, hp⟩ : ∃ p, letterP r[0].toNat = p := ⟨_, rfl⟩
      rw [hp] at HL hle
      have HP := Lib.hid hp
      have HG := Lib.hid hg0
      unfold letV at HL
      dsimp only at HL hle
      clear hz hp hg0
      by_cases c0 : n = 0
      · subst c0
        have HE := Lib.hid (HU.out.trans (utf_zero HG.out HP.out))
        clear HU HG HP hrs
        go_wp2_with (go_at_call 131; refine (HL.out _).mono ?_; rintro e w' ⟨rfl, rfl⟩)
        go_ret
        exact ⟨by rw [HE.out]; rfl, rfl⟩
      · have t0 : ((n : Int) == 0) = false := by rw [beq_eq_false_iff_ne]; omega
        by_cases c1 : r.size < n
        · have HE := Lib.hid (HU.out.trans (utf_long HG.out HP.out (by rw [length_bytesOf]; exact c1)))
          clear HU HG HP hrs
          go_wp2_with (go_at_call 131; refine (HL.out _).mono ?_; rintro e w' ⟨rfl, rfl⟩)
          go_ret
          exact ⟨by rw [HE.out]; rfl, rfl⟩
        · have hn1 : 1 ≤ n := by omega
          have hnr : n ≤ r.size := by omega
          have t1 : decide (r.size < n) = false := decide_eq_false c1
          by_cases c2 : 2 ≤ n
          · have h1r : 1 < r.size := by omega
            have HG1 := Lib.hid (bytesOf_get? r 1 h1r)
            have t2 : decide (1 < n) = true := decide_eq_true (by omega)
            by_cases c3 : lo ≤ r[1].toNat ∧ r[1].toNat ≤ hi
            · have HS2 : Hid (∀ x, 1 < n → (bytesOf r)[1]? = some x → lo ≤ x ∧ x ≤ hi) := Lib.hid (fun x _ h => by rw [HG1.out] at h; simp at h; subst h; exact c3)
              have t3 : decide (r[1].toNat < lo) = false := decide_eq_false (by omega)
              have t4 : decide (hi < r[1].toNat) = false := decide_eq_false (by omega)
              clear c3 HG1
              go_wp2_with (go_at_call 131; refine (HL.out _).mono ?_; rintro e w' ⟨rfl, rfl⟩)
              clear HL
              go_loopg [6] (n - 2) (fun g t wr => ∃ j : Nat, t = .int .i64 (j : Nat) ∧ 2 ≤ j ∧ j ≤ n + 1 ∧ g = n - j ∧ Hid (∀ i x, 2 ≤ i → i < j → (bytesOf r)[i]? = some x → 128 ≤ x ∧ x ≤ 191) ∧ w = wr)
              case atStart => exact ⟨2, rfl, Nat.le_refl _, by omega, rfl, Lib.hid (fun i x h1 h2 => by omega), rfl⟩
              case round =>
                obtain ⟨j, rfl, hj2, hjn, rfl, HA, rfl⟩ := hrel
                by_cases cj : j < n
                · have hjr : j < r.size := by omega
                  have HGJ := Lib.hid (bytesOf_get? r j hjr)
                  by_cases cb : 128 ≤ r[j].toNat ∧ r[j].toNat ≤ 191
                  · have t5 : decide ((r[j].toNat : Int) < 128) = false := decide_eq_false (by omega)
                    have t6 : decide (191 < (r[j].toNat : Int)) = false := decide_eq_false (by omega)
                    have HA2 : Hid (∀ i x, 2 ≤ i → i < j + 1 → (bytesOf r)[i]? = some x → 128 ≤ x ∧ x ≤ 191) := Lib.hid (fun i x h1 h2 h3 => by
                      by_cases e : i = j
                      · subst e; rw [HGJ.out] at h3; simp at h3; omega
                      · exact HA.out i x h1 (by omega) h3)
                    clear HA HGJ cb
                    go_wp2
                    go_roundg (n - (j + 1))
                    all_goals first
                      | omega
                      | exact ⟨j + 1, by go_num, by omega, by omega, rfl, HA2, rfl⟩
                  · have HE := Lib.hid (HU.out.trans (utf_bad HG.out HP.out (i := j) (by omega) (by omega) HGJ.out (by rw [if_neg (by omega), if_neg (by omega)]; exact cb)))
                    clear HA HGJ HU HG HP HS2
                    by_cases cl : r[j].toNat < 128
                    · have t5 : decide ((r[j].toNat : Int) < 128) = true := decide_eq_true (by omega)
                      clear cb
                      go_wp2
                      go_ret
                      exact ⟨by rw [HE.out]; rfl, rfl⟩
                    · have t5 : decide ((r[j].toNat : Int) < 128) = false := decide_eq_false (by omega)
                      have t6 : decide (191 < (r[j].toNat : Int)) = true := decide_eq_true (by omega)
                      clear cb
                      go_wp2
                      go_ret
                      exact ⟨by rw [HE.out]; rfl, rfl⟩
                · have hlen := length_bytesOf r
                  have HE := Lib.hid (HU.out.trans (utf_yes HG.out HP.out hn1 (by omega) (fun i x h1 h2 h3 => by
                    by_cases e : i = 1
                    · subst e; rw [if_pos rfl, if_pos rfl]; exact HS2.out x (by omega) h3
                    · rw [if_neg e, if_neg e]; exact HA.out i x (by omega) (by omega) h3)))
                  have HSZ : Hid ((r.extract n r.size).size = r.size - n) := Lib.hid (by rw [ByteArray.size_extract]; omega)
                  rw [← bytesOf_drop] at HE
                  clear HA HU HG HP HS2 hlen
                  go_wp2
                  go_roundg (r.size - n)
                  all_goals first
                    | omega
                    | exact ⟨r.extract n r.size, rfl, HSZ.out.symm, by rw [HSZ.out]; omega, HE, rfl⟩
            · have HE := Lib.hid (HU.out.trans (utf_bad HG.out HP.out (i := 1) (by omega) (by omega) HG1.out (by simpa using c3)))
              clear HU HG HP HG1 hrs
              by_cases c4 : r[1].toNat < lo
              · have t3 : decide (r[1].toNat < lo) = true := decide_eq_true c4
                clear c3
                go_wp2_with (go_at_call 131; refine (HL.out _).mono ?_; rintro e w' ⟨rfl, rfl⟩)
                go_ret
                exact ⟨by rw [HE.out]; rfl, rfl⟩
              · have t3 : decide (r[1].toNat < lo) = false := decide_eq_false c4
                have t4 : decide (hi < r[1].toNat) = true := decide_eq_true (by omega)
                clear c3
                go_wp2_with (go_at_call 131; refine (HL.out _).mono ?_; rintro e w' ⟨rfl, rfl⟩)
                go_ret
                exact ⟨by rw [HE.out]; rfl, rfl⟩
          · have t2 : decide (1 < n) = false := decide_eq_false (by omega)
            have HS2 : Hid (∀ x, 1 < n → (bytesOf r)[1]? = some x → lo ≤ x ∧ x ≤ hi) := Lib.hid (fun x h _ => by omega)
            go_wp2_with (go_at_call 131; refine (HL.out _).mono ?_; rintro e w' ⟨rfl, rfl⟩)
            clear HL
            go_loopg [6] (n - 2) (fun g t wr => ∃ j : Nat, t = .int .i64 (j : Nat) ∧ 2 ≤ j ∧ j ≤ n + 1 ∧ g = n - j ∧ Hid (∀ i x, 2 ≤ i → i < j → (bytesOf r)[i]? = some x → 128 ≤ x ∧ x ≤ 191) ∧ w = wr)
            case atStart => exact ⟨2, rfl, Nat.le_refl _, by omega, rfl, Lib.hid (fun i x h1 h2 => by omega), rfl⟩
            case round =>
              obtain ⟨j, rfl, hj2, hjn, rfl, HA, rfl⟩ := hrel
              by_cases cj : j < n
              · have hjr : j < r.size := by omega
                have HGJ := Lib.hid (bytesOf_get? r j hjr)
                by_cases cb : 128 ≤ r[j].toNat ∧ r[j].toNat ≤ 191
                · have t5 : decide ((r[j].toNat : Int) < 128) = false := decide_eq_false (by omega)
                  have t6 : decide (191 < (r[j].toNat : Int)) = false := decide_eq_false (by omega)
                  have HA2 : Hid (∀ i x, 2 ≤ i → i < j + 1 → (bytesOf r)[i]? = some x → 128 ≤ x ∧ x ≤ 191) := Lib.hid (fun i x h1 h2 h3 => by
                    by_cases e : i = j
                    · subst e; rw [HGJ.out] at h3; simp at h3; omega
                    · exact HA.out i x h1 (by omega) h3)
                  clear HA HGJ cb
                  go_wp2
                  go_roundg (n - (j + 1))
                  all_goals first
                    | omega
                    | exact ⟨j + 1, by go_num, by omega, by omega, rfl, HA2, rfl⟩
                · have HE := Lib.hid (HU.out.trans (utf_bad HG.out HP.out (i := j) (by omega) (by omega) HGJ.out (by rw [if_neg (by omega), if_neg (by omega)]; exact cb)))
                  clear HA HGJ HU HG HP HS2
                  by_cases cl : r[j].toNat < 128
                  · have t5 : decide ((r[j].toNat : Int) < 128) = true := decide_eq_true (by omega)
                    clear cb
                    go_wp2
                    go_ret
                    exact ⟨by rw [HE.out]; rfl, rfl⟩
                  · have t5 : decide ((r[j].toNat : Int) < 128) = false := decide_eq_false (by omega)
                    have t6 : decide (191 < (r[j].toNat : Int)) = true := decide_eq_true (by omega)
                    clear cb
                    go_wp2
                    go_ret
                    exact ⟨by rw [HE.out]; rfl, rfl⟩
              · have hlen := length_bytesOf r
                have HE := Lib.hid (HU.out.trans (utf_yes HG.out HP.out hn1 (by omega) (fun i x h1 h2 h3 => by
                  by_cases e : i = 1
                  · subst e; rw [if_pos rfl, if_pos rfl]; exact HS2.out x (by omega) h3
                  · rw [if_neg e, if_neg e]; exact HA.out i x (by omega) (by omega) h3)))
                have HSZ : Hid ((r.extract n r.size).size = r.size - n) := Lib.hid (by rw [ByteArray.size_extract]; omega)
                rw [← bytesOf_drop] at HE
                clear HA HU HG HP HS2 hlen
                go_wp2
                go_roundg (r.size - n)
                all_goals first
                  | omega
                  | exact ⟨r.extract n r.size, rfl, HSZ.out.symm, by rw [HSZ.out]; omega, HE, rfl⟩
end Go.Proofs.YtigjingielnaoaaDoor
