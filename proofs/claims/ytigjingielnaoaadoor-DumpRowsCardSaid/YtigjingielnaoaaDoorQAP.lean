/- Package name: part. -/
import Derived.Test.YtigjingielnaoaaDoorNameU
import Derived.WalkKit
import Derived.Handy
import Derived.Outline
import Derived.BigQuiet
import Derived.Deep.CutBlock
import Derived.Deep.DeepCutAuto
import Derived.Deep.DeepFit
import Derived.Deep.Light
import Derived.Deep.LoopGhost
import Derived.Deep.QuietTactic
import Derived.Deep.RegionHeld3
import Derived.Deep.RegionLaw
import Derived.IntWalk
import Derived.Laws.BitsAllLaws
import Derived.Lib.MinMax
import Derived.StillTailTactics
import Derived.WalkSpells
import Derived.Lib.Hide
import Derived.Test.YtigjingielnaoaaDoorQAA
namespace Go.Proofs.YtigjingielnaoaaDoor
set_option linter.unusedVariables false
set_option linter.unusedSimpArgs false
set_option linter.unusedSectionVars false
open Go.RowKit
set_option linter.unusedVariables false

/-- A byte that no part may have. -/
def badC (c : Nat) : Bool := decide (c < 32) || decide (c = 127) || decide (c = 47) || decide (c = 92) || decide (c = 58)
theorem partOk_bad {l : List Nat} {i c : Nat} (h : l[i]? = some c) (hb : badC c = true) : partOk l = false := by
  have hm : c ∈ l := List.mem_of_getElem? h
  have : l.all (fun c => !(decide (c < 32) || decide (c = 127) || decide (c = 47) || decide (c = 92) || decide (c = 58))) = false := by
    rw [List.all_eq_false]
    exact ⟨c, hm, by unfold badC at hb; simp only [hb]; simp⟩
  unfold partOk; rw [this]; rfl
theorem partOk_eq {l : List Nat} (h : ∀ (i c : Nat), l[i]? = some c → badC c = false) : partOk l = (decide (1 ≤ l.length) && decide (l.length ≤ 60) && decide (l ≠ [46]) && decide (l ≠ [46, 46]) && utfP l) := by
  have : l.all (fun c => !(decide (c < 32) || decide (c = 127) || decide (c = 47) || decide (c = 92) || decide (c = 58))) = true := by
    rw [List.all_eq_true]
    intro c hc
    obtain ⟨i, hi⟩ := List.getElem?_of_mem hc
    have := h i c hi
    unfold badC at this
    simp only [this]; rfl
  unfold partOk; rw [this]; simp
theorem toList_bytes (s : ByteArray) (l : List UInt8) : (s.toList == l) = decide (bytesOf s = l.map UInt8.toNat) := by
  rw [Bool.eq_iff_iff, beq_iff_eq, decide_eq_true_eq, ByteArray.toList_eq]
  constructor
  · intro h; unfold bytesOf; rw [h]
  · intro h
    unfold bytesOf at h
    have hi : Function.Injective UInt8.toNat := fun a b e => UInt8.toNat_inj.1 e
    exact (List.map_inj_right (fun a b e => hi e)).1 h
theorem ne_dot (s : ByteArray) : (s.toList == [46]) = decide (bytesOf s = [46]) := toList_bytes s [46]
theorem ne_dots (s : ByteArray) : (s.toList == [46, 46]) = decide (bytesOf s = [46, 46]) := toList_bytes s [46, 46]
set_option maxRecDepth 100000 in
set_option maxHeartbeats 4000000 in
theorem part_any (s : ByteArray) (w : World) (hs : s.size ≤ 9223372036854775807) : Calls Tryd.prog 97 #[.string s] w fun e w' => e = .returned (.bool (partOk (bytesOf s))) ∧ w = w' := by
  go_enter Tryd.func97, Tryd.ntmps97
  go_wp2
  go_loopg [7] s.size (fun g t wr => ∃ k : Nat, k ≤ s.size ∧ t = .int .i64 (k : Nat) ∧ g = s.size - k ∧ Hid (∀ i c : Nat, i < k → (bytesOf s)[i]? = some c → badC c = false) ∧ w = wr)
  case atStart => exact ⟨0, Nat.zero_le _, rfl, rfl, Lib.hid (fun i c h => by omega), rfl⟩
  case round =>
    obtain ⟨k, hk, rfl, rfl, HA, rfl⟩ := hrel
    by_cases hc : k < s.size
    · have HG := Lib.hid (bytesOf_get? s k hc)
      cases hb : badC s[k].toNat with
      | true =>
        have HE := Lib.hid (partOk_bad HG.out hb)
        unfold badC at hb
        have HB := Lib.hid hb
        clear hb HA HG
        have fin : ∀ b : Bool, b = false → Ending.returned (.bool b) = .returned (.bool (partOk (bytesOf s))) := fun b h => by rw [h, HE.out]
        have FIN := Lib.hid fin
        clear fin
        by_cases c1 : s[k].toNat < 32
        · have t1 : decide ((s[k].toNat : Int) < 32) = true := decide_eq_true (by omega)
          go_wp2
          go_ret
          exact ⟨FIN.out _ rfl, rfl⟩
        · have t1 : decide ((s[k].toNat : Int) < 32) = false := decide_eq_false (by omega)
          by_cases c2 : s[k].toNat = 127
          · have t2 : ((s[k].toNat : Int) == 127) = true := by rw [beq_iff_eq]; omega
            clear c1 c2
            go_wp2
            go_ret
            exact ⟨FIN.out _ rfl, rfl⟩
          · have t2 : ((s[k].toNat : Int) == 127) = false := by rw [beq_eq_false_iff_ne]; omega
            by_cases c3 : s[k].toNat = 47
            · have t3 : ((s[k].toNat : Int) == 47) = true := by rw [beq_iff_eq]; omega
              clear c1 c2 c3
              go_wp2
              go_ret
              exact ⟨FIN.out _ rfl, rfl⟩
            · have t3 : ((s[k].toNat : Int) == 47) = false := by rw [beq_eq_false_iff_ne]; omega
              by_cases c4 : s[k].toNat = 92
              · have t4 : ((s[k].toNat : Int) == 92) = true := by rw [beq_iff_eq]; omega
                clear c1 c2 c3 c4
                go_wp2
                go_ret
                exact ⟨FIN.out _ rfl, rfl⟩
              · have t4 : ((s[k].toNat : Int) == 92) = false := by rw [beq_eq_false_iff_ne]; omega
                have t5 : ((s[k].toNat : Int) == 58) = true := by
                  have := HB.out
                  simp [c1, c2, c3, c4] at this
                  rw [beq_iff_eq]; omega
                clear c1 c2 c3 c4
                go_wp2
                go_ret
                exact ⟨FIN.out _ rfl, rfl⟩
      | false =>
        have HA2 : Hid (∀ i c : Nat, i < k + 1 → (bytesOf s)[i]? = some c → badC c = false) := Lib.hid (fun i c h1 h2 => by
          by_cases e : i = k
          · subst e; rw [HG.out] at h2; simp at h2; subst h2; exact hb
          · exact HA.out i c (by omega) h2)
        unfold badC at hb
        simp only [Bool.or_eq_false_iff, decide_eq_false_iff_not] at hb
        obtain ⟨⟨⟨⟨c1, c2⟩, c3⟩, c4⟩, c5⟩ := hb
        have t1 : decide ((s[k].toNat : Int) < 32) = false := decide_eq_false (by omega)
        have t2 : ((s[k].toNat : Int) == 127) = false := by rw [beq_eq_false_iff_ne]; omega
        have t3 : ((s[k].toNat : Int) == 47) = false := by rw [beq_eq_false_iff_ne]; omega
        have t4 : ((s[k].toNat : Int) == 92) = false := by rw [beq_eq_false_iff_ne]; omega
        have t5 : ((s[k].toNat : Int) == 58) = false := by rw [beq_eq_false_iff_ne]; omega
        clear c1 c2 c3 c4 c5 HA HG
        go_wp2
        go_roundg (s.size - (k + 1))
        all_goals first
          | omega
          | exact ⟨k + 1, by omega, by go_num, rfl, HA2, rfl⟩
    · have hlen := length_bytesOf s
      have HE := Lib.hid (partOk_eq (l := bytesOf s) (fun i c h => HA.out i c (by have := (List.getElem?_eq_some_iff.1 h).1; omega) h))
      rw [hlen] at HE
      obtain rfl : k = s.size := by omega
      have HL := Lib.hid (fun w => letters_any s w hs)
      have HD1 := Lib.hid (ne_dot s)
      have HD2 := Lib.hid (ne_dots s)
      clear hlen HA hc hk
      by_cases c1 : 1 ≤ s.size
      · by_cases c2 : s.size ≤ 60
        · by_cases c3 : bytesOf s = [46]
          · have t3 : (s.toList == [46]) = true := HD1.out.trans (decide_eq_true c3)
            have HZ : Hid (partOk (bytesOf s) = false) := Lib.hid (by rw [HE.out]; simp [c3])
            clear c3
            go_wp2
            go_ret
            exact ⟨by rw [HZ.out]; rfl, rfl⟩
          · have t3 : (s.toList == [46]) = false := HD1.out.trans (decide_eq_false c3)
            by_cases c4 : bytesOf s = [46, 46]
            · have t4 : (s.toList == [46, 46]) = true := HD2.out.trans (decide_eq_true c4)
              have HZ : Hid (partOk (bytesOf s) = false) := Lib.hid (by rw [HE.out]; simp [c4])
              clear c3 c4
              go_wp2
              go_ret
              exact ⟨by rw [HZ.out]; rfl, rfl⟩
            · have t4 : (s.toList == [46, 46]) = false := HD2.out.trans (decide_eq_false c4)
              have HZ : Hid (partOk (bytesOf s) = utfP (bytesOf s)) := Lib.hid (by rw [HE.out, decide_eq_true c1, decide_eq_true c2, decide_eq_true c3, decide_eq_true c4]; simp)
              clear c3 c4
              go_wp2_with (go_at_call 116; refine (HL.out _).mono ?_; rintro e w' ⟨rfl, rfl⟩)
              go_ret
              exact ⟨by rw [HZ.out]; rfl, rfl⟩
        · have HZ : Hid (partOk (bytesOf s) = false) := Lib.hid (by rw [HE.out, decide_eq_false c2]; simp)
          go_wp2
          go_ret
          exact ⟨by rw [HZ.out]; rfl, rfl⟩
      · have HZ : Hid (partOk (bytesOf s) = false) := Lib.hid (by rw [HE.out, decide_eq_false c1]; simp)
        go_wp2
        go_ret
        exact ⟨by rw [HZ.out]; rfl, rfl⟩
end Go.Proofs.YtigjingielnaoaaDoor
namespace Go.Proofs.YtigjingielnaoaaDoor
set_option linter.unusedVariables false
set_option linter.unusedSimpArgs false
set_option linter.unusedSectionVars false
open Go.RowKit
set_option linter.unusedVariables false

set_option maxRecDepth 100000 in
set_option maxHeartbeats 8000000 in
theorem utf8_any (s : ByteArray) (w : World) (hs : s.size ≤ 1100000) : Calls Tryd.prog 128 #[.string s] w fun e w' => e = .returned (.bool (utfP (bytesOf s))) ∧ w = w' := by
  go_enter Tryd.func128, Tryd.ntmps128
  go_wp2
  go_loopg [3] s.size (fun g t wr => ∃ i : Nat, i ≤ s.size ∧ t = .int .i64 (i : Nat) ∧ g = s.size - i ∧ Hid (utfP (bytesOf s) = utfP ((bytesOf s).drop i)) ∧ w = wr)
  case atStart => exact ⟨0, Nat.zero_le _, rfl, rfl, Lib.hid rfl, rfl⟩
  case round =>
    obtain ⟨i, hi, rfl, rfl, HU, rfl⟩ := hrel
    by_cases hc : i < s.size
    · have hg0 : ((bytesOf s).drop i)[0]? = some s[i].toNat := by rw [List.getElem?_drop]; exact bytesOf_get? s i hc
      have HG := Lib.hid hg0
      clear hg0
      have hlt : s[i].toNat < 256 := s[i].toNat_lt
      obtain ⟨c, hcc⟩ : ∃ c, s[i].toNat = c := ⟨_, rfl⟩
      have HCC := Lib.hid hcc
      rw [hcc] at HG
      clear hcc
      go_upto_if 19 with fail
      rw [HCC.out] at hlt ⊢
      go_cut [5, 6, 7] (fun s5 s6 s7 wx => ∃ n lo hi a b : Nat, s5 = .int .i64 (n : Nat) ∧ s6 = .int .i64 (lo : Nat) ∧ s7 = .int .i64 (hi : Nat) ∧ Hid (letterP c = (n, a, b) ∧ (2 ≤ n → lo = a ∧ hi = b)) ∧ w = wx)
      case first =>
        have ways : (c < 128) ∨ (128 ≤ c ∧ c < 194) ∨ (194 ≤ c ∧ c ≤ 223) ∨ (c = 224) ∨ (225 ≤ c ∧ c < 237) ∨ (c = 237) ∨ (238 ≤ c ∧ c ≤ 239) ∨ (c = 240) ∨ (241 ≤ c ∧ c ≤ 243) ∨ (c = 244) ∨ (245 ≤ c) := by omega
        clear HU HG HCC
        rcases ways with h0 | h0 | h0 | h0 | h0 | h0 | h0 | h0 | h0 | h0 | h0
        · have e1 : ((c : Int) == 224) = false := by rw [beq_eq_false_iff_ne]; omega
          have e2 : ((c : Int) == 237) = false := by rw [beq_eq_false_iff_ne]; omega
          have e3 : ((c : Int) == 240) = false := by rw [beq_eq_false_iff_ne]; omega
          have e4 : ((c : Int) == 244) = false := by rw [beq_eq_false_iff_ne]; omega
          go_wp2
          go_meet
          exact ⟨1, 128, 191, 0, 0, rfl, rfl, rfl, Lib.hid ⟨by unfold letterP; (repeat' split) <;> first | rfl | (exfalso; omega), by omega⟩, rfl⟩
        · have e1 : ((c : Int) == 224) = false := by rw [beq_eq_false_iff_ne]; omega
          have e2 : ((c : Int) == 237) = false := by rw [beq_eq_false_iff_ne]; omega
          have e3 : ((c : Int) == 240) = false := by rw [beq_eq_false_iff_ne]; omega
          have e4 : ((c : Int) == 244) = false := by rw [beq_eq_false_iff_ne]; omega
          go_wp2
          go_meet
          exact ⟨0, 128, 191, 0, 0, rfl, rfl, rfl, Lib.hid ⟨by unfold letterP; (repeat' split) <;> first | rfl | (exfalso; omega), by omega⟩, rfl⟩
        · have e1 : ((c : Int) == 224) = false := by rw [beq_eq_false_iff_ne]; omega
          have e2 : ((c : Int) == 237) = false := by rw [beq_eq_false_iff_ne]; omega
          have e3 : ((c : Int) == 240) = false := by rw [beq_eq_false_iff_ne]; omega
          have e4 : ((c : Int) == 244) = false := by rw [beq_eq_false_iff_ne]; omega
          go_wp2
          go_meet
          exact ⟨2, 128, 191, 128, 191, rfl, rfl, rfl, Lib.hid ⟨by unfold letterP; (repeat' split) <;> first | rfl | (exfalso; omega), by omega⟩, rfl⟩
        · subst h0
          go_wp2
          go_meet
          exact ⟨3, 160, 191, 160, 191, rfl, rfl, rfl, Lib.hid ⟨by unfold letterP; (repeat' split) <;> first | rfl | (exfalso; omega), by omega⟩, rfl⟩
        · have e1 : ((c : Int) == 224) = false := by rw [beq_eq_false_iff_ne]; omega
          have e2 : ((c : Int) == 237) = false := by rw [beq_eq_false_iff_ne]; omega
          have e3 : ((c : Int) == 240) = false := by rw [beq_eq_false_iff_ne]; omega
          have e4 : ((c : Int) == 244) = false := by rw [beq_eq_false_iff_ne]; omega
          go_wp2
          go_meet
          exact ⟨3, 128, 191, 128, 191, rfl, rfl, rfl, Lib.hid ⟨by unfold letterP; (repeat' split) <;> first | rfl | (exfalso; omega), by omega⟩, rfl⟩
        · subst h0
          go_wp2
          go_meet
          exact ⟨3, 128, 159, 128, 159, rfl, rfl, rfl, Lib.hid ⟨by unfold letterP; (repeat' split) <;> first | rfl | (exfalso; omega), by omega⟩, rfl⟩
        · have e1 : ((c : Int) == 224) = false := by rw [beq_eq_false_iff_ne]; omega
          have e2 : ((c : Int) == 237) = false := by rw [beq_eq_false_iff_ne]; omega
          have e3 : ((c : Int) == 240) = false := by rw [beq_eq_false_iff_ne]; omega
          have e4 : ((c : Int) == 244) = false := by rw [beq_eq_false_iff_ne]; omega
          go_wp2
          go_meet
          exact ⟨3, 128, 191, 128, 191, rfl, rfl, rfl, Lib.hid ⟨by unfold letterP; (repeat' split) <;> first | rfl | (exfalso; omega), by omega⟩, rfl⟩
        · subst h0
          go_wp2
          go_meet
          exact ⟨4, 144, 191, 144, 191, rfl, rfl, rfl, Lib.hid ⟨by unfold letterP; (repeat' split) <;> first | rfl | (exfalso; omega), by omega⟩, rfl⟩
        · have e1 : ((c : Int) == 224) = false := by rw [beq_eq_false_iff_ne]; omega
          have e2 : ((c : Int) == 237) = false := by rw [beq_eq_false_iff_ne]; omega
          have e3 : ((c : Int) == 240) = false := by rw [beq_eq_false_iff_ne]; omega
          have e4 : ((c : Int) == 244) = false := by rw [beq_eq_false_iff_ne]; omega
          go_wp2
          go_meet
          exact ⟨4, 128, 191, 128, 191, rfl, rfl, rfl, Lib.hid ⟨by unfold letterP; (repeat' split) <;> first | rfl | (exfalso; omega), by omega⟩, rfl⟩
        · subst h0
          go_wp2
          go_meet
          exact ⟨4, 128, 143, 128, 143, rfl, rfl, rfl, Lib.hid ⟨by unfold letterP; (repeat' split) <;> first | rfl | (exfalso; omega), by omega⟩, rfl⟩
        · have e1 : ((c : Int) == 224) = false := by rw [beq_eq_false_iff_ne]; omega
          have e2 : ((c : Int) == 237) = false := by rw [beq_eq_false_iff_ne]; omega
          have e3 : ((c : Int) == 240) = false := by rw [beq_eq_false_iff_ne]; omega
          have e4 : ((c : Int) == 244) = false := by rw [beq_eq_false_iff_ne]; omega
          go_wp2
          go_meet
          exact ⟨0, 128, 191, 0, 0, rfl, rfl, rfl, Lib.hid ⟨by unfold letterP; (repeat' split) <;> first | rfl | (exfalso; omega), by omega⟩, rfl⟩
      case rest =>
        obtain ⟨n, lo, hi, a, b, rfl, rfl, rfl, HP, rfl⟩ := hcut
        have hn4 : n ≤ 4 := by have := letterP_le c; rw [HP.out.1] at this; exact this
        have hlen : ((bytesOf s).drop i).length = s.size - i := by rw [List.length_drop, length_bytesOf]
        have HLN := Lib.hid hlen
        clear hlen HCC
        by_cases c0 : n = 0
        · subst c0
          have HE := Lib.hid (HU.out.trans (utf_zero HG.out HP.out.1))
          clear HU HG HP HLN
          go_wp2
          go_ret
          exact ⟨by rw [HE.out]; rfl, rfl⟩
        · have t0 : ((n : Int) == 0) = false := by rw [beq_eq_false_iff_ne]; omega
          by_cases c1 : s.size < i + n
          · have HE := Lib.hid (HU.out.trans (utf_long HG.out HP.out.1 (by rw [HLN.out]; omega)))
            clear HU HG HP HLN
            go_wp2
            go_ret
            exact ⟨by rw [HE.out]; rfl, rfl⟩
          · have hn1 : 1 ≤ n := by omega
            go_wp2
            go_loopg [6, 7, 8] (n - 1) (fun g s6 s7 t wr => ∃ k lo hi : Nat, s6 = .int .i64 (lo : Nat) ∧ s7 = .int .i64 (hi : Nat) ∧ t = .int .i64 (k : Nat) ∧ 1 ≤ k ∧ k ≤ n ∧ g = n - k ∧ Hid ((k = 1 → 2 ≤ n → lo = a ∧ hi = b) ∧ (k ≠ 1 → lo = 128 ∧ hi = 191)) ∧ Hid (∀ j x, 1 ≤ j → j < k → ((bytesOf s).drop i)[j]? = some x → (if j = 1 then a else 128) ≤ x ∧ x ≤ (if j = 1 then b else 191)) ∧ w = wr)
            case atStart => exact ⟨1, lo, hi, rfl, rfl, rfl, Nat.le_refl _, hn1, rfl, Lib.hid ⟨fun _ h => HP.out.2 h, fun h => absurd rfl h⟩, Lib.hid (fun j x h1 h2 => by omega), rfl⟩
            case round =>
              obtain ⟨k, lo', hi', rfl, rfl, rfl, hk1, hkn, rfl, HQ, HA, rfl⟩ := hrel
              by_cases ck : k < n
              · have hik : i + k < s.size := by omega
                have hbl : s[i + k].toNat < 256 := s[i + k].toNat_lt
                have HGK : Hid (((bytesOf s).drop i)[k]? = some s[i + k].toNat) := Lib.hid (by rw [List.getElem?_drop]; exact bytesOf_get? s (i + k) hik)
                have hab : Hid (lo' = (if k = 1 then a else 128) ∧ hi' = (if k = 1 then b else 191)) := Lib.hid (by
                  by_cases e : k = 1
                  · rw [if_pos e, if_pos e]; exact HQ.out.1 e (by omega)
                  · rw [if_neg e, if_neg e]; exact HQ.out.2 e)
                by_cases cb : lo' ≤ s[i + k].toNat ∧ s[i + k].toNat ≤ hi'
                · have t5 : decide (s[i + k].toNat < lo') = false := decide_eq_false (by omega)
                  have t6 : decide (hi' < s[i + k].toNat) = false := decide_eq_false (by omega)
                  have HA2 : Hid (∀ j x, 1 ≤ j → j < k + 1 → ((bytesOf s).drop i)[j]? = some x → (if j = 1 then a else 128) ≤ x ∧ x ≤ (if j = 1 then b else 191)) := Lib.hid (fun j x h1 h2 h3 => by
                    by_cases e : j = k
                    · subst e; rw [HGK.out] at h3; simp only [Option.some.injEq] at h3; subst h3; rw [← hab.out.1, ← hab.out.2]; exact cb
                    · exact HA.out j x h1 (by omega) h3)
                  clear HA HGK cb hab HQ
                  go_wp2
                  go_roundg (n - (k + 1))
                  all_goals first
                    | omega
                    | exact ⟨k + 1, 128, 191, rfl, rfl, by go_num, by omega, by omega, rfl, Lib.hid ⟨fun h => by omega, fun _ => ⟨rfl, rfl⟩⟩, HA2, rfl⟩
                · have HE := Lib.hid (HU.out.trans (utf_bad HG.out HP.out.1 (i := k) (by omega) (by omega) HGK.out (by rw [← hab.out.1, ← hab.out.2]; exact cb)))
                  clear HA HGK HU HG HP hab HQ
                  by_cases cl : s[i + k].toNat < lo'
                  · have t5 : decide (s[i + k].toNat < lo') = true := decide_eq_true cl
                    clear cb
                    go_wp2
                    go_ret
                    exact ⟨by rw [HE.out]; rfl, rfl⟩
                  · have t5 : decide (s[i + k].toNat < lo') = false := decide_eq_false cl
                    have t6 : decide (hi' < s[i + k].toNat) = true := decide_eq_true (by omega)
                    clear cb
                    go_wp2
                    go_ret
                    exact ⟨by rw [HE.out]; rfl, rfl⟩
              · have HE := Lib.hid (HU.out.trans (utf_yes HG.out HP.out.1 hn1 (by rw [HLN.out]; omega) (fun j x h1 h2 h3 => HA.out j x h1 (by omega) h3)))
                rw [List.drop_drop] at HE
                clear HA HU HG HP HQ HLN
                go_wp2
                go_roundg (s.size - (i + n))
                all_goals first
                  | omega
                  | exact ⟨i + n, by omega, by go_num, rfl, HE, rfl⟩
    · have hlen := length_bytesOf s
      have HE : Hid (utfP (bytesOf s) = true) := Lib.hid (by rw [HU.out, List.drop_of_length_le (by omega)]; rfl)
      clear HU hlen
      go_wp2
      go_ret
      exact ⟨by rw [HE.out]; rfl, rfl⟩
end Go.Proofs.YtigjingielnaoaaDoor
namespace Go.Proofs.YtigjingielnaoaaDoor
set_option linter.unusedVariables false
set_option linter.unusedSimpArgs false
set_option linter.unusedSectionVars false
open Go.RowKit
set_option linter.unusedVariables false

set_option maxRecDepth 100000 in
set_option maxHeartbeats 4000000 in
theorem rpart_any (s : ByteArray) (w : World) (hs : s.size ≤ 1100000) : Calls Tryd.prog 109 #[.string s] w fun e w' => e = .returned (.bool (partOk (bytesOf s))) ∧ w = w' := by
  go_enter Tryd.func109, Tryd.ntmps109
  go_wp2
  go_loopg [3] s.size (fun g t wr => ∃ k : Nat, k ≤ s.size ∧ t = .int .i64 (k : Nat) ∧ g = s.size - k ∧ Hid (∀ i c : Nat, i < k → (bytesOf s)[i]? = some c → badC c = false) ∧ w = wr)
  case atStart => exact ⟨0, Nat.zero_le _, rfl, rfl, Lib.hid (fun i c h => by omega), rfl⟩
  case round =>
    obtain ⟨k, hk, rfl, rfl, HA, rfl⟩ := hrel
    by_cases hc : k < s.size
    · have HG := Lib.hid (bytesOf_get? s k hc)
      cases hb : badC s[k].toNat with
      | true =>
        have HE := Lib.hid (partOk_bad HG.out hb)
        unfold badC at hb
        have HB := Lib.hid hb
        clear hb HA HG
        have fin : ∀ b : Bool, b = false → Ending.returned (.bool b) = .returned (.bool (partOk (bytesOf s))) := fun b h => by rw [h, HE.out]
        have FIN := Lib.hid fin
        clear fin
        by_cases c1 : s[k].toNat < 32
        · have t1 : decide ((s[k].toNat : Int) < 32) = true := decide_eq_true (by omega)
          go_wp2
          go_ret
          exact ⟨FIN.out _ rfl, rfl⟩
        · have t1 : decide ((s[k].toNat : Int) < 32) = false := decide_eq_false (by omega)
          by_cases c2 : s[k].toNat = 127
          · have t2 : ((s[k].toNat : Int) == 127) = true := by rw [beq_iff_eq]; omega
            clear c1 c2
            go_wp2
            go_ret
            exact ⟨FIN.out _ rfl, rfl⟩
          · have t2 : ((s[k].toNat : Int) == 127) = false := by rw [beq_eq_false_iff_ne]; omega
            by_cases c3 : s[k].toNat = 47
            · have t3 : ((s[k].toNat : Int) == 47) = true := by rw [beq_iff_eq]; omega
              clear c1 c2 c3
              go_wp2
              go_ret
              exact ⟨FIN.out _ rfl, rfl⟩
            · have t3 : ((s[k].toNat : Int) == 47) = false := by rw [beq_eq_false_iff_ne]; omega
              by_cases c4 : s[k].toNat = 92
              · have t4 : ((s[k].toNat : Int) == 92) = true := by rw [beq_iff_eq]; omega
                clear c1 c2 c3 c4
                go_wp2
                go_ret
                exact ⟨FIN.out _ rfl, rfl⟩
              · have t4 : ((s[k].toNat : Int) == 92) = false := by rw [beq_eq_false_iff_ne]; omega
                have t5 : ((s[k].toNat : Int) == 58) = true := by
                  have := HB.out
                  simp [c1, c2, c3, c4] at this
                  rw [beq_iff_eq]; omega
                clear c1 c2 c3 c4
                go_wp2
                go_ret
                exact ⟨FIN.out _ rfl, rfl⟩
      | false =>
        have HA2 : Hid (∀ i c : Nat, i < k + 1 → (bytesOf s)[i]? = some c → badC c = false) := Lib.hid (fun i c h1 h2 => by
          by_cases e : i = k
          · subst e; rw [HG.out] at h2; simp at h2; subst h2; exact hb
          · exact HA.out i c (by omega) h2)
        unfold badC at hb
        simp only [Bool.or_eq_false_iff, decide_eq_false_iff_not] at hb
        obtain ⟨⟨⟨⟨c1, c2⟩, c3⟩, c4⟩, c5⟩ := hb
        have t1 : decide ((s[k].toNat : Int) < 32) = false := decide_eq_false (by omega)
        have t2 : ((s[k].toNat : Int) == 127) = false := by rw [beq_eq_false_iff_ne]; omega
        have t3 : ((s[k].toNat : Int) == 47) = false := by rw [beq_eq_false_iff_ne]; omega
        have t4 : ((s[k].toNat : Int) == 92) = false := by rw [beq_eq_false_iff_ne]; omega
        have t5 : ((s[k].toNat : Int) == 58) = false := by rw [beq_eq_false_iff_ne]; omega
        clear c1 c2 c3 c4 c5 HA HG
        go_wp2
        go_roundg (s.size - (k + 1))
        all_goals first
          | omega
          | exact ⟨k + 1, by omega, by go_num, rfl, HA2, rfl⟩
    · have hlen := length_bytesOf s
      have HE := Lib.hid (partOk_eq (l := bytesOf s) (fun i c h => HA.out i c (by have := (List.getElem?_eq_some_iff.1 h).1; omega) h))
      rw [hlen] at HE
      obtain rfl : k = s.size := by omega
      have HL := Lib.hid (fun w => utf8_any s w hs)
      have HD1 := Lib.hid (ne_dot s)
      have HD2 := Lib.hid (ne_dots s)
      clear hlen HA hc hk
      by_cases c1 : 1 ≤ s.size
      · by_cases c2 : s.size ≤ 60
        · by_cases c3 : bytesOf s = [46]
          · have t3 : (s.toList == [46]) = true := HD1.out.trans (decide_eq_true c3)
            have HZ : Hid (partOk (bytesOf s) = false) := Lib.hid (by rw [HE.out]; simp [c3])
            clear c3
            go_wp2
            go_ret
            exact ⟨by rw [HZ.out]; rfl, rfl⟩
          · have t3 : (s.toList == [46]) = false := HD1.out.trans (decide_eq_false c3)
            by_cases c4 : bytesOf s = [46, 46]
            · have t4 : (s.toList == [46, 46]) = true := HD2.out.trans (decide_eq_true c4)
              have HZ : Hid (partOk (bytesOf s) = false) := Lib.hid (by rw [HE.out]; simp [c4])
              clear c3 c4
              go_wp2
              go_ret
              exact ⟨by rw [HZ.out]; rfl, rfl⟩
            · have t4 : (s.toList == [46, 46]) = false := HD2.out.trans (decide_eq_false c4)
              have HZ : Hid (partOk (bytesOf s) = utfP (bytesOf s)) := Lib.hid (by rw [HE.out, decide_eq_true c1, decide_eq_true c2, decide_eq_true c3, decide_eq_true c4]; simp)
              clear c3 c4
              go_wp2_with (go_at_call 128; refine (HL.out _).mono ?_; rintro e w' ⟨rfl, rfl⟩)
              go_ret
              exact ⟨by rw [HZ.out]; rfl, rfl⟩
        · have HZ : Hid (partOk (bytesOf s) = false) := Lib.hid (by rw [HE.out, decide_eq_false c2]; simp)
          go_wp2
          go_ret
          exact ⟨by rw [HZ.out]; rfl, rfl⟩
      · have HZ : Hid (partOk (bytesOf s) = false) := Lib.hid (by rw [HE.out, decide_eq_false c1]; simp)
        go_wp2
        go_ret
        exact ⟨by rw [HZ.out]; rfl, rfl⟩
end Go.Proofs.YtigjingielnaoaaDoor
