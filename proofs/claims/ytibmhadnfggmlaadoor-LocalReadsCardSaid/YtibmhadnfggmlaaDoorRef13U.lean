/- Package swingleref13: utf8, Part. -/
import Derived.Test.YtibmhadnfggmlaaDoorNameA
import Derived.Test.YtibmhadnfggmlaaDoorKit
import Derived.Test.YtibmhadnfggmlaaDoorNums
namespace Go.Proofs.YtibmhadnfggmlaaDoor
open Go.RowKit
set_option linter.unusedVariables false

set_option maxRecDepth 100000 in
set_option maxHeartbeats 8000000 in
theorem utf8_any (s : ByteArray) (w : World) (hs : s.size ≤ 1000000) : Calls Tryd.prog 149 #[.string s] w fun e w' => e = .returned (.bool (utfP (bytesOf s))) ∧ w = w' := by
  go_enter Tryd.func149, Tryd.ntmps149
  go_wp2
  go_loopg [3] s.size (fun g t wr => ∃ i : Nat, i ≤ s.size ∧ t = .int .i64 (i : Nat) ∧ g = s.size - i ∧ Hid (utfP (bytesOf s) = utfP ((bytesOf s).drop i)) ∧ w = wr)
  case atStart => exact ⟨0, Nat.zero_le _, rfl, rfl, Lib.hid rfl, rfl⟩
  case round =>
    obtain ⟨i, hi, rfl, rfl, HU, rfl⟩ := hrel
    by_cases hc : i < s.size
    · have hg0 : ((bytesOf s).drop i)[0]? = some s[i].toNat := by rw [List.getElem?_drop]; exact bytesOf_get? s i hc
      have HG := Lib.hid hg0
      clear hg0
      have hlt : s[i].toNat < 256 := s[i].toNat_lt
      obtain ⟨c, hcc⟩ : ∃ c, s[i].toNat = c := ⟨_, rfl⟩
      have HCC := Lib.hid hcc
      rw [hcc] at HG
      clear hcc
      go_upto_if 19 with fail
      rw [HCC.out] at hlt ⊢
      go_cut [5, 6, 7] (fun s5 s6 s7 wx => ∃ n lo hi a b : Nat, s5 = .int .i64 (n : Nat) ∧ s6 = .int .i64 (lo : Nat) ∧ s7 = .int .i64 (hi : Nat) ∧ Hid (letterP c = (n, a, b) ∧ (2 ≤ n → lo = a ∧ hi = b)) ∧ w = wx)
      case first =>
        have ways : (c < 128) ∨ (128 ≤ c ∧ c < 194) ∨ (194 ≤ c ∧ c ≤ 223) ∨ (c = 224) ∨ (225 ≤ c ∧ c < 237) ∨ (c = 237) ∨ (238 ≤ c ∧ c ≤ 239) ∨ (c = 240) ∨ (241 ≤ c ∧ c ≤ 243) ∨ (c = 244) ∨ (245 ≤ c) := by omega
        clear HU HG HCC
        rcases ways with h0 | h0 | h0 | h0 | h0 | h0 | h0 | h0 | h0 | h0 | h0
        · have e1 : ((c : Int) == 224) = false := by rw [beq_eq_false_iff_ne]; omega
          have e2 : ((c : Int) == 237) = false := by rw [beq_eq_false_iff_ne]; omega
          have e3 : ((c : Int) == 240) = false := by rw [beq_eq_false_iff_ne]; omega
          have e4 : ((c : Int) == 244) = false := by rw [beq_eq_false_iff_ne]; omega
          go_wp2
          go_meet
          exact ⟨1, 128, 191, 0, 0, rfl, rfl, rfl, Lib.hid ⟨by unfold letterP; (repeat' split) <;> first | rfl | (exfalso; omega), by omega⟩, rfl⟩
        · have e1 : ((c : Int) == 224) = false := by rw [beq_eq_false_iff_ne]; omega
          have e2 : ((c : Int) == 237) = false := by rw [beq_eq_false_iff_ne]; omega
          have e3 : ((c : Int) == 240) = false := by rw [beq_eq_false_iff_ne]; omega
          have e4 : ((c : Int) == 244) = false := by rw [beq_eq_false_iff_ne]; omega
          go_wp2
          go_meet
          exact ⟨0, 128, 191, 0, 0, rfl, rfl, rfl, Lib.hid ⟨by unfold letterP; (repeat' split) <;> first | rfl | (exfalso; omega), by omega⟩, rfl⟩
        · have e1 : ((c : Int) == 224) = false := by rw [beq_eq_false_iff_ne]; omega
          have e2 : ((c : Int) == 237) = false := by rw [beq_eq_false_iff_ne]; omega
          have e3 : ((c : Int) == 240) = false := by rw [beq_eq_false_iff_ne]; omega
          have e4 : ((c : Int) == 244) = false := by rw [beq_eq_false_iff_ne]; omega
          go_wp2
          go_meet
          exact ⟨2, 128, 191, 128, 191, rfl, rfl, rfl, Lib.hid ⟨by unfold letterP; (repeat' split) <;> first | rfl | (exfalso; omega), by omega⟩, rfl⟩
        · subst h0
          go_wp2
          go_meet
          exact ⟨3, 160, 191, 160, 191, rfl, rfl, rfl, Lib.hid ⟨by unfold letterP; (repeat' split) <;> first | rfl | (exfalso; omega), by omega⟩, rfl⟩
        · have e1 : ((c : Int) == 224) = false := by rw [beq_eq_false_iff_ne]; omega
          have e2 : ((c : Int) == 237) = false := by rw [beq_eq_false_iff_ne]; omega
          have e3 : ((c : Int) == 240) = false := by rw [beq_eq_false_iff_ne]; omega
          have e4 : ((c : Int) == 244) = false := by rw [beq_eq_false_iff_ne]; omega
          go_wp2
          go_meet
          exact ⟨3, 128, 191, 128, 191, rfl, rfl, rfl, Lib.hid ⟨by unfold letterP; (repeat' split) <;> first | rfl | (exfalso; omega), by omega⟩, rfl⟩
        · subst h0
          go_wp2
          go_meet
          exact ⟨3, 128, 159, 128, 159, rfl, rfl, rfl, Lib.hid ⟨by unfold letterP; (repeat' split) <;> first | rfl | (exfalso; omega), by omega⟩, rfl⟩
        · have e1 : ((c : Int) == 224) = false := by rw [beq_eq_false_iff_ne]; omega
          have e2 : ((c : Int) == 237) = false := by rw [beq_eq_false_iff_ne]; omega
          have e3 : ((c : Int) == 240) = false := by rw [beq_eq_false_iff_ne]; omega
          have e4 : ((c : Int) == 244) = false := by rw [beq_eq_false_iff_ne]; omega
          go_wp2
          go_meet
          exact ⟨3, 128, 191, 128, 191, rfl, rfl, rfl, Lib.hid ⟨by unfold letterP; (repeat' split) <;> first | rfl | (exfalso; omega), by omega⟩, rfl⟩
        · subst h0
          go_wp2
          go_meet
          exact ⟨4, 144, 191, 144, 191, rfl, rfl, rfl, Lib.hid ⟨by unfold letterP; (repeat' split) <;> first | rfl | (exfalso; omega), by omega⟩, rfl⟩
        · have e1 : ((c : Int) == 224) = false := by rw [beq_eq_false_iff_ne]; omega
          have e2 : ((c : Int) == 237) = false := by rw [beq_eq_false_iff_ne]; omega
          have e3 : ((c : Int) == 240) = false := by rw [beq_eq_false_iff_ne]; omega
          have e4 : ((c : Int) == 244) = false := by rw [beq_eq_false_iff_ne]; omega
          go_wp2
          go_meet
          exact ⟨4, 128, 191, 128, 191, rfl, rfl, rfl, Lib.hid ⟨by unfold letterP; (repeat' split) <;> first | rfl | (exfalso; omega), by omega⟩, rfl⟩
        · subst h0
          go_wp2
          go_meet
          exact ⟨4, 128, 143, 128, 143, rfl, rfl, rfl, Lib.hid ⟨by unfold letterP; (repeat' split) <;> first | rfl | (exfalso; omega), by omega⟩, rfl⟩
        · have e1 : ((c : Int) == 224) = false := by rw [beq_eq_false_iff_ne]; omega
          have e2 : ((c : Int) == 237) = false := by rw [beq_eq_false_iff_ne]; omega
          have e3 : ((c : Int) == 240) = false := by rw [beq_eq_false_iff_ne]; omega
          have e4 : ((c : Int) == 244) = false := by rw [beq_eq_false_iff_ne]; omega
          go_wp2
          go_meet
          exact ⟨0, 128, 191, 0, 0, rfl, rfl, rfl, Lib.hid ⟨by unfold letterP; (repeat' split) <;> first | rfl | (exfalso; omega), by omega⟩, rfl⟩
      case rest =>
        obtain ⟨n, lo, hi, a, b, rfl, rfl, rfl, HP, rfl⟩ := hcut
        have hn4 : n ≤ 4 := by have := letterP_le c; rw [HP.out.1] at this; exact this
        have hlen : ((bytesOf s).drop i).length = s.size - i := by rw [List.length_drop, length_bytesOf]
        have HLN := Lib.hid hlen
        clear hlen HCC
        by_cases c0 : n = 0
        · subst c0
          have HE := Lib.hid (HU.out.trans (utf_zero HG.out HP.out.1))
          clear HU HG HP HLN
          go_wp2
          go_ret
          exact ⟨by rw [HE.out]; rfl, rfl⟩
        · have t0 : ((n : Int) == 0) = false := by rw [beq_eq_false_iff_ne]; omega
          by_cases c1 : s.size < i + n
          · have HE := Lib.hid (HU.out.trans (utf_long HG.out HP.out.1 (by rw [HLN.out]; omega)))
            clear HU HG HP HLN
            go_wp2
            go_ret
            exact ⟨by rw [HE.out]; rfl, rfl⟩
          · have hn1 : 1 ≤ n := by omega
            go_wp2
            go_loopg [6, 7, 8] (n - 1) (fun g s6 s7 t wr => ∃ k lo hi : Nat, s6 = .int .i64 (lo : Nat) ∧ s7 = .int .i64 (hi : Nat) ∧ t = .int .i64 (k : Nat) ∧ 1 ≤ k ∧ k ≤ n ∧ g = n - k ∧ Hid ((k = 1 → 2 ≤ n → lo = a ∧ hi = b) ∧ (k ≠ 1 → lo = 128 ∧ hi = 191)) ∧ Hid (∀ j x, 1 ≤ j → j < k → ((bytesOf s).drop i)[j]? = some x → (if j = 1 then a else 128) ≤ x ∧ x ≤ (if j = 1 then b else 191)) ∧ w = wr)
            case atStart => exact ⟨1, lo, hi, rfl, rfl, rfl, Nat.le_refl _, hn1, rfl, Lib.hid ⟨fun _ h => HP.out.2 h, fun h => absurd rfl h⟩, Lib.hid (fun j x h1 h2 => by omega), rfl⟩
            case round =>
              obtain ⟨k, lo', hi', rfl, rfl, rfl, hk1, hkn, rfl, HQ, HA, rfl⟩ := hrel
              by_cases ck : k < n
              · have hik : i + k < s.size := by omega
                have hbl : s[i + k].toNat < 256 := s[i + k].toNat_lt
                have HGK : Hid (((bytesOf s).drop i)[k]? = some s[i + k].toNat) := Lib.hid (by rw [List.getElem?_drop]; exact bytesOf_get? s (i + k) hik)
                have hab : Hid (lo' = (if k = 1 then a else 128) ∧ hi' = (if k = 1 then b else 191)) := Lib.hid (by
                  by_cases e : k = 1
                  · rw [if_pos e, if_pos e]; exact HQ.out.1 e (by omega)
                  · rw [if_neg e, if_neg e]; exact HQ.out.2 e)
                by_cases cb : lo' ≤ s[i + k].toNat ∧ s[i + k].toNat ≤ hi'
                · have t5 : decide (s[i + k].toNat < lo') = false := decide_eq_false (by omega)
                  have t6 : decide (hi' < s[i + k].toNat) = false := decide_eq_false (by omega)
                  have HA2 : Hid (∀ j x, 1 ≤ j → j < k + 1 → ((bytesOf s).drop i)[j]? = some x → (if j = 1 then a else 128) ≤ x ∧ x ≤ (if j = 1 then b else 191)) := Lib.hid (fun j x h1 h2 h3 => by
                    by_cases e : j = k
                    · subst e; rw [HGK.out] at h3; simp only [Option.some.injEq] at h3; subst h3; rw [← hab.out.1, ← hab.out.2]; exact cb
                    · exact HA.out j x h1 (by omega) h3)
                  clear HA HGK cb hab HQ
                  go_wp2
                  go_roundg (n - (k + 1))
                  all_goals first
                    | omega
                    | exact ⟨k + 1, 128, 191, rfl, rfl, by go_num, by omega, by omega, rfl, Lib.hid ⟨fun h => by omega, fun _ => ⟨rfl, rfl⟩⟩, HA2, rfl⟩
                · have HE := Lib.hid (HU.out.trans (utf_bad HG.out HP.out.1 (i := k) (by omega) (by omega) HGK.out (by rw [← hab.out.1, ← hab.out.2]; exact cb)))
                  clear HA HGK HU HG HP hab HQ
                  by_cases cl : s[i + k].toNat < lo'
                  · have t5 : decide (s[i + k].toNat < lo') = true := decide_eq_true cl
                    clear cb
                    go_wp2
                    go_ret
                    exact ⟨by rw [HE.out]; rfl, rfl⟩
                  · have t5 : decide (s[i + k].toNat < lo') = false := decide_eq_false cl
                    have t6 : decide (hi' < s[i + k].toNat) = true := decide_eq_true (by omega)
                    clear cb
                    go_wp2
                    go_ret
                    exact ⟨by rw [HE.out]; rfl, rfl⟩
              · have HE := Lib.hid (HU.out.trans (utf_yes HG.out HP.out.1 hn1 (by rw [HLN.out]; omega) (fun j x h1 h2 h3 => HA.out j x h1 (by omega) h3)))
                rw [List.drop_drop] at HE
                clear HA HU HG HP HQ HLN
                go_wp2
                go_roundg (s.size - (i + n))
                all_goals first
                  | omega
                  | exact ⟨i + n, by omega, by go_num, rfl, HE, rfl⟩
    · have hlen := length_bytesOf s
      have HE : Hid (utfP (bytesOf s) = true) := Lib.hid (by rw [HU.out, List.drop_of_length_le (by omega)]; rfl)
      clear HU hlen
      go_wp2
      go_ret
      exact ⟨by rw [HE.out]; rfl, rfl⟩
end Go.Proofs.YtibmhadnfggmlaaDoor
