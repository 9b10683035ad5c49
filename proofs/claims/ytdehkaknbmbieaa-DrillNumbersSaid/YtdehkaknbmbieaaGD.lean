/- Package swingleref13: utf8, Part. -/
import Derived.Test.YtdehkaknbmbieaaGC
import Derived.Test.YtdehkaknbmbieaaGA
namespace Go.Proofs.Ytdehkaknbmbieaa
set_option linter.unusedVariables false
set_option linter.unusedSimpArgs false
set_option linter.unusedSectionVars false
open Go.RowKit
set_option linter.unusedVariables false

set_option maxRecDepth 100000 in
set_option maxHeartbeats 8000000 in
theorem utf8_any (s : ByteArray) (w : World) (hs : s.size ≤ 1100000) : Calls Try.prog 98 #[.string s] w fun e w' => e = .returned (.bool (utfP (bytesOf s))) ∧ w = w' := by
  go_enter Try.func98, Try.ntmps98
  go_wp2
  go_loopg [3] s.size (fun g t wr => ∃ i : Nat, i ≤ s.size ∧ t = .int .i64 (i : Nat) ∧ g = s.size - i ∧ Hid (utfP (bytesOf s) = utfP ((bytesOf s).drop i)) ∧ w = wr)
  case atStart => exact ⟨0, Nat.zero_le _, rfl, rfl, Lib.hid rfl, rfl⟩
  case round =>
    obtain ⟨i, hi, rfl, rfl, HU, rfl⟩ := hrel
    by_cases hc : i < s.size
    · have hg0 : ((bytesOf s).drop i)[0]? = some s[i].toNat := by rw [List.getElem?_drop]; exact bytesOf_get? s i hc
      have HG := Lib.hid hg0
      clear hg0
      have hlt : s[i].toNat < 256 := s[i].toNat_lt
      obtain ⟨c, hcc⟩ : ∃ c, s[i].toNat = c := ⟨_, rfl⟩
      have HCC := Lib.hid hcc
      rw [hcc] at HG
      clear hcc
      go_upto_if 19 with fail
      rw [HCC.out] at hlt ⊢
      go_cut [5, 6, 7] (fun s5 s6 s7 wx => ∃ n lo hi a b : Nat, s5 = .int .i64 (n : Nat) ∧ s6 = .int .i64 (lo : Nat) ∧ s7 = .int .i64 (hi : Nat) ∧ Hid (letterP c = (n, a, b) ∧ (2 ≤ n → lo = a ∧ hi = b)) ∧ w = wx)
      case first =>
        have ways : (c < 128) ∨ (128 ≤ c ∧ c < 194) ∨ (194 ≤ c ∧ c ≤ 223) ∨ (c = 224) ∨ (225 ≤ c ∧ c < 237) ∨ (c = 237) ∨ (238 ≤ c ∧ c ≤ 239) ∨ (c = 240) ∨ (241 ≤ c ∧ c ≤ 243) ∨ (c = 244) ∨ (245 ≤ c) := by omega
        clear HU HG HCC
        rcases ways with h0 | h0 | h0 | h0 | h0 | h0 | h0 | h0 | h0 | h0 | h0
        · have e1 : ((c : Int) == 224) = false := by rw [beq_eq_false_iff_ne]; omega
          have e2 : ((c : Int) == 237) = false := by rw [beq_eq_false_iff_ne]; omega
          have e3 : ((c : Int) == 240) = false := by rw [beq_eq_false_iff_ne]; omega
          have e4 : ((c : Int) == 244) = false := by rw [beq_eq_false_iff_ne]; omega
          go_wp2
          go_meet
          exact ⟨1, 128, 191, 0, 0, rfl, rfl, rfl, Lib.hid ⟨by unfold letterP; (repeat' split) <;> first | rfl | (exfalso; omega), by omega⟩, rfl⟩
        · have e1 : ((c : Int) == 224) = false := by rw [beq_eq_false_iff_ne]; omega
          have e2 : ((c : Int) == 237) = false := by rw [beq_eq_false_iff_ne]; omega
          have e3 : ((c : Int) == 240) = false := by rw [beq_eq_false_iff_ne]; omega
          have e4 : ((c : Int) == 244) = false := by rw [beq_eq_false_iff_ne]; omega
          go_wp2
          go_meet
          exact ⟨0, 128, 191, 0, 0, rfl, rfl, rfl, Lib.hid ⟨by unfold letterP; (repeat' split) <;> first | rfl | (exfalso; omega), by omega⟩, rfl⟩
        · have e1 : ((c : Int) == 224) = false := by rw [beq_eq_false_iff_ne]; omega
          have e2 : ((c : Int) == 237) = false := by rw [beq_eq_false_iff_ne]; omega
          have e3 : ((c : Int) == 240) = false := by rw [beq_eq_false_iff_ne]; omega
          have e4 : ((c : Int) == 244) = false := by rw [beq_eq_false_iff_ne]; omega
          go_wp2
          go_meet
          exact ⟨2, 128, 191, 128, 191, rfl, rfl, rfl, Lib.hid ⟨by unfold letterP; (repeat' split) <;> first | rfl | (exfalso; omega), by omega⟩, rfl⟩
        · subst h0
          go_wp2
          go_meet
          exact ⟨3, 160, 191, 160, 191, rfl, rfl, rfl, Lib.hid ⟨by unfold letterP; (repeat' split) <;> first | rfl | (exfalso; omega), by omega⟩, rfl⟩
        · have e1 : ((c : Int) == 224) = false := by rw [beq_eq_false_iff_ne]; omega
          have e2 : ((c : Int) == 237) = false := by rw [beq_eq_false_iff_ne]; omega
          have e3 : ((c : Int) == 240) = false := by rw [beq_eq_false_iff_ne]; omega
          have e4 : ((c : Int) == 244) = false := by rw [beq_eq_false_iff_ne]; omega
          go_wp2
          go_meet
          exact ⟨3, 128, 191, 128, 191, rfl, rfl, rfl, Lib.hid ⟨by unfold letterP; (repeat' split) <;> first | rfl | (exfalso; omega), by omega⟩, rfl⟩
        · subst h0
          go_wp2
          go_meet
          exact ⟨3, 128, 159, 128, 159, rfl, rfl, rfl, Lib.hid ⟨by unfold letterP; (repeat' split) <;> first | rfl | (exfalso; omega), by omega⟩, rfl⟩
        · have e1 : ((c : Int) == 224) = false := by rw [beq_eq_false_iff_ne]; omega
          have e2 : ((c : Int) == 237) = false := by rw [beq_eq_false_iff_ne]; omega
          have e3 : ((c : Int) == 240) = false := by rw [beq_eq_false_iff_ne]; omega
          have e4 : ((c : Int) == 244) = false := by rw [beq_eq_false_iff_ne]; omega
          go_wp2
          go_meet
          exact ⟨3, 128, 191, 128, 191, rfl, rfl, rfl, Lib.hid ⟨by unfold letterP; (repeat' split) <;> first | rfl | (exfalso; omega), by omega⟩, rfl⟩
        · subst h0
          go_wp2
          go_meet
          exact ⟨4, 144, 191, 144, 191, rfl, rfl, rfl, Lib.hid ⟨by unfold letterP; (repeat' split) <;> first | rfl | (exfalso; omega), by omega⟩, rfl⟩
        · have e1 : ((c : Int) == 224) = false := by rw [beq_eq_false_iff_ne]; omega
          have e2 : ((c : Int) == 237) = false := by rw [beq_eq_false_iff_ne]; omega
          have e3 : ((c : Int) == 240) = false := by rw [beq_eq_false_iff_ne]; omega
          have e4 : ((c : Int) == 244) = false := by rw [beq_eq_false_iff_ne]; omega
          go_wp2
          go_meet
          exact ⟨4, 128, 191, 128, 191, rfl, rfl, rfl, Lib.hid ⟨by unfold letterP; (repeat' split) <;> first | rfl | (exfalso; omega), by omega⟩, rfl⟩
        · subst h0
          go_wp2
          go_meet
          exact ⟨4, 128, 143, 128, 143, rfl, rfl, rfl, Lib.hid ⟨by unfold letterP; (repeat' split) <;> first | rfl | (exfalso; omega), by omega⟩, rfl⟩
        · have e1 : ((c : Int) == 224) = false := by rw [beq_eq_false_iff_ne]; omega
          have e2 : ((c : Int) == 237) = false := by rw [beq_eq_false_iff_ne]; omega
          have e3 : ((c : Int) == 240) = false := by rw [beq_eq_false_iff_ne]; omega
          have e4 : ((c : Int) == 244) = false := by rw [beq_eq_false_iff_ne]; omega
          go_wp2
          go_meet
          exact ⟨0, 128, 191, 0, 0, rfl, rfl, rfl, Lib.hid ⟨by unfold letterP; (repeat' split) <;> first | rfl | (exfalso; omega), by omega⟩, rfl⟩
      case rest =>
        obtain ⟨n, lo, hi, a, b, rfl, rfl, rfl, HP, rfl⟩ := hcut
        have hn4 : n ≤ 4 := by have := letterP_le c; rw [HP.out.1] at this; exact this
        have hlen : ((bytesOf s).drop i).length = s.size - i := by rw [List.length_drop, length_bytesOf]
        have HLN := Lib.hid hlen
        clear hlen HCC
        by_cases c0 : n = 0
        · subst c0
          have HE := Lib.hid (HU.out.trans (utf_zero HG.out HP.out.1))
          clear HU HG HP HLN
          go_wp2
          go_ret
          exact ⟨by rw [HE.out]; rfl, rfl⟩
        · have t0 : ((n : Int) == 0) = false := by rw [beq_eq_false_iff_ne]; omega
          by_cases c1 : s.size < i + n
          · have HE := Lib.hid (HU.out.trans (utf_long HG.out HP.out.1 (by rw [HLN.out]; omega)))
            clear HU HG HP HLN
            go_wp2
            go_ret
            exact ⟨by rw [HE.out]; rfl, rfl⟩
          · have hn1 : 1 ≤ n := by omega
            go_wp2
            go_loopg [6, 7, 8] (n - 1) (fun g s6 s7 t wr => ∃ k lo hi : Nat, s6 = .int .i64 (lo : Nat) ∧ s7 = .int .i64 (hi : Nat) ∧ t = .int .i64 (k : Nat) ∧ 1 ≤ k ∧ k ≤ n ∧ g = n - k ∧ Hid ((k = 1 → 2 ≤ n → lo = a ∧ hi = b) ∧ (k ≠ 1 → lo = 128 ∧ hi = 191)) ∧ Hid (∀ j x, 1 ≤ j → j < k → ((bytesOf s).drop i)[j]? = some x → (if j = 1 then a else 128) ≤ x ∧ x ≤ (if j = 1 then b else 191)) ∧ w = wr)
            case atStart => exact ⟨1, lo, hi, rfl, rfl, rfl, Nat.le_refl _, hn1, rfl, Lib.hid ⟨fun _ h => HP.out.2 h, fun h => absurd rfl h⟩, Lib.hid (fun j x h1 h2 => by omega), rfl⟩
            case round =>
              obtain ⟨k, lo', hi', rfl, rfl, rfl, hk1, hkn, rfl, HQ, HA, rfl⟩ := hrel
              by_cases ck : k < n
              · have hik : i + k < s.size := by omega
                have hbl : s[i + k].toNat < 256 := s[i + k].toNat_lt
                have HGK : Hid (((bytesOf s).drop i)[k]? = some s[i + k].toNat) := Lib.hid (by rw [List.getElem?_drop]; exact bytesOf_get? s (i + k) hik)
                have hab : Hid (lo' = (if k = 1 then a else 128) ∧ hi' = (if k = 1 then b else 191)) := Lib.hid (by
                  by_cases e : k = 1
                  · rw [if_pos e, if_pos e]; exact HQ.out.1 e (by omega)
                  · rw [if_neg e, if_neg e]; exact HQ.out.2 e)
                by_cases cb : lo' ≤ s[i + k].toNat ∧ s[i + k].toNat ≤ hi'
                · have t5 : decide (s[i + k].toNat < lo') = false := decide_eq_false (by omega)
                  have t6 : decide (hi' < s[i + k].toNat) = false := decide_eq_false (by omega)
                  have HA2 : Hid (∀ j x, 1 ≤ j → j < k + 1 → ((bytesOf s).drop i)[j]? = some x → (if j = 1 then a else 128) ≤ x ∧ x ≤ (if j = 1 then b else 191)) := Lib.hid (fun j x h1 h2 h3 => by
                    by_cases e : j = k
                    · subst e; rw [HGK.out] at h3; simp only [Option.some.injEq] at h3; subst h3; rw [← hab.out.1, ← hab.out.2]; exact cb
                    · exact HA.out j x h1 (by omega) h3)
                  clear HA HGK cb hab HQ
                  go_wp2
                  go_roundg (n - (k + 1))
                  all_goals first
                    | omega
                    | exact ⟨k + 1, 128, 191, rfl, rfl, by go_num, by omega, by omega, rfl, Lib.hid ⟨fun h => by omega, fun _ => ⟨rfl, rfl⟩⟩, HA2, rfl⟩
                · have HE := Lib.hid (HU.out.trans (utf_bad HG.out HP.out.1 (i := k) (by omega) (by omega) HGK.out (by rw [← hab.out.1, ← hab.out.2]; exact cb)))
                  clear HA HGK HU HG HP hab HQ
                  by_cases cl : s[i + k].toNat < lo'
                  · have t5 : decide (s[i + k].toNat < lo') = true := decide_eq_true cl
                    clear cb
                    go_wp2
                    go_ret
                    exact ⟨by rw [HE.out]; rfl, rfl⟩
                  · have t5 : decide (s[i + k].toNat < lo') = false := decide_eq_false cl
                    have t6 : decide (hi' < s[i + k].toNat) = true := decide_eq_true (by omega)
                    clear cb
                    go_wp2
                    go_ret
                    exact ⟨by rw [HE.out]; rfl, rfl⟩
              · have HE := Lib.hid (HU.out.trans (utf_yes HG.out HP.out.1 hn1 (by rw [HLN.out]; omega) (fun j x h1 h2 h3 => HA.out j x h1 (by omega) h3)))
                rw [List.drop_drop] at HE
                clear HA HU HG HP HQ HLN
                go_wp2
                go_roundg (s.size - (i + n))
                all_goals first
                  | omega
                  | exact ⟨i + n, by omega, by go_num, rfl, HE, rfl⟩
    · have hlen := length_bytesOf s
      have HE : Hid (utfP (bytesOf s) = true) := Lib.hid (by rw [HU.out, List.drop_of_length_le (by omega)]; rfl)
      clear HU hlen
      go_wp2
      go_ret
      exact ⟨by rw [HE.out]; rfl, rfl⟩
end Go.Proofs.Ytdehkaknbmbieaa
namespace Go.Proofs.Ytdehkaknbmbieaa
set_option linter.unusedVariables false
set_option linter.unusedSimpArgs false
set_option linter.unusedSectionVars false
open Go.RowKit
set_option linter.unusedVariables false

set_option maxRecDepth 100000 in
set_option maxHeartbeats 4000000 in
theorem rpart_any (s : ByteArray) (w : World) (hs : s.size ≤ 1100000) : Calls Try.prog 71 #[.string s] w fun e w' => e = .returned (.bool (partOk (bytesOf s))) ∧ w = w' := by
  go_enter Try.func71, Try.ntmps71
  go_wp2
  go_loopg [3] s.size (fun g t wr => ∃ k : Nat, k ≤ s.size ∧ t = .int .i64 (k : Nat) ∧ g = s.size - k ∧ Hid (∀ i c : Nat, i < k → (bytesOf s)[i]? = some c → badC c = false) ∧ w = wr)
  case atStart => exact ⟨0, Nat.zero_le _, rfl, rfl, Lib.hid (fun i c h => by omega), rfl⟩
  case round =>
    obtain ⟨k, hk, rfl, rfl, HA, rfl⟩ := hrel
    by_cases hc : k < s.size
    · have HG := Lib.hid (bytesOf_get? s k hc)
      cases hb : badC s[k].toNat with
      | true =>
        have HE := Lib.hid (partOk_bad HG.out hb)
        unfold badC at hb
        have HB := Lib.hid hb
        clear hb HA HG
        have fin : ∀ b : Bool, b = false → Ending.returned (.bool b) = .returned (.bool (partOk (bytesOf s))) := fun b h => by rw [h, HE.out]
        have FIN := Lib.hid fin
        clear fin
        by_cases c1 : s[k].toNat < 32
        · have t1 : decide ((s[k].toNat : Int) < 32) = true := decide_eq_true (by omega)
          go_wp2
          go_ret
          exact ⟨FIN.out _ rfl, rfl⟩
        · have t1 : decide ((s[k].toNat : Int) < 32) = false := decide_eq_false (by omega)
          by_cases c2 : s[k].toNat = 127
          · have t2 : ((s[k].toNat : Int) == 127) = true := by rw [beq_iff_eq]; omega
            clear c1 c2
            go_wp2
            go_ret
            exact ⟨FIN.out _ rfl, rfl⟩
          · have t2 : ((s[k].toNat : Int) == 127) = false := by rw [beq_eq_false_iff_ne]; omega
            by_cases c3 : s[k].toNat = 47
            · have t3 : ((s[k].toNat : Int) == 47) = true := by rw [beq_iff_eq]; omega
              clear c1 c2 c3
              go_wp2
              go_ret
              exact ⟨FIN.out _ rfl, rfl⟩
            · have t3 : ((s[k].toNat : Int) == 47) = false := by rw [beq_eq_false_iff_ne]; omega
              by_cases c4 : s[k].toNat = 92
              · have t4 : ((s[k].toNat : Int) == 92) = true := by rw [beq_iff_eq]; omega
                clear c1 c2 c3 c4
                go_wp2
                go_ret
                exact ⟨FIN.out _ rfl, rfl⟩
              · have t4 : ((s[k].toNat : Int) == 92) = false := by rw [beq_eq_false_iff_ne]; omega
                have t5 : ((s[k].toNat : Int) == 58) = true := by
                  have := HB.out
                  simp [c1, c2, c3, c4] at this
                  rw [beq_iff_eq]; omega
                clear c1 c2 c3 c4
                go_wp2
                go_ret
                exact ⟨FIN.out _ rfl, rfl⟩
      | false =>
        have HA2 : Hid (∀ i c : Nat, i < k + 1 → (bytesOf s)[i]? = some c → badC c = false) := Lib.hid (fun i c h1 h2 => by
          by_cases e : i = k
          · subst e; rw [HG.out] at h2; simp at h2; subst h2; exact hb
          · exact HA.out i c (by omega) h2)
        unfold badC at hb
        simp only [Bool.or_eq_false_iff, decide_eq_false_iff_not] at hb
        obtain ⟨⟨⟨⟨c1, c2⟩, c3⟩, c4⟩, c5⟩ := hb
        have t1 : decide ((s[k].toNat : Int) < 32) = false := decide_eq_false (by omega)
        have t2 : ((s[k].toNat : Int) == 127) = false := by rw [beq_eq_false_iff_ne]; omega
        have t3 : ((s[k].toNat : Int) == 47) = false := by rw [beq_eq_false_iff_ne]; omega
        have t4 : ((s[k].toNat : Int) == 92) = false := by rw [beq_eq_false_iff_ne]; omega
        have t5 : ((s[k].toNat : Int) == 58) = false := by rw [beq_eq_false_iff_ne]; omega
        clear c1 c2 c3 c4 c5 HA HG
        go_wp2
        go_roundg (s.size - (k + 1))
        all_goals first
          | omega
          | exact ⟨k + 1, by omega, by go_num, rfl, HA2, rfl⟩
    · have hlen := length_bytesOf s
      have HE := Lib.hid (partOk_eq (l := bytesOf s) (fun i c h => HA.out i c (by have := (List.getElem?_eq_some_iff.1 h).1; omega) h))
      rw [hlen] at HE
      obtain rfl : k = s.size := by omega
      have HL := Lib.hid (fun w => utf8_any s w hs)
      have HD1 := Lib.hid (ne_dot s)
      have HD2 := Lib.hid (ne_dots s)
      clear hlen HA hc hk
      by_cases c1 : 1 ≤ s.size
      · by_cases c2 : s.size ≤ 60
        · by_cases c3 : bytesOf s = [46]
          · have t3 : (s.toList == [46]) = true := HD1.out.trans (decide_eq_true c3)
            have HZ : Hid (partOk (bytesOf s) = false) := Lib.hid (by rw [HE.out]; simp [c3])
            clear c3
            go_wp2
            go_ret
            exact ⟨by rw [HZ.out]; rfl, rfl⟩
          · have t3 : (s.toList == [46]) = false := HD1.out.trans (decide_eq_false c3)
            by_cases c4 : bytesOf s = [46, 46]
            · have t4 : (s.toList == [46, 46]) = true := HD2.out.trans (decide_eq_true c4)
              have HZ : Hid (partOk (bytesOf s) = false) := Lib.hid (by rw [HE.out]; simp [c4])
              clear c3 c4
              go_wp2
              go_ret
              exact ⟨by rw [HZ.out]; rfl, rfl⟩
            · have t4 : (s.toList == [46, 46]) = false := HD2.out.trans (decide_eq_false c4)
              have HZ : Hid (partOk (bytesOf s) = utfP (bytesOf s)) := Lib.hid (by rw [HE.out, decide_eq_true c1, decide_eq_true c2, decide_eq_true c3, decide_eq_true c4]; simp)
              clear c3 c4
              go_wp2_with (go_at_call 98; refine (HL.out _).mono ?_; rintro e w' ⟨rfl, rfl⟩)
              go_ret
              exact ⟨by rw [HZ.out]; rfl, rfl⟩
        · have HZ : Hid (partOk (bytesOf s) = false) := Lib.hid (by rw [HE.out, decide_eq_false c2]; simp)
          go_wp2
          go_ret
          exact ⟨by rw [HZ.out]; rfl, rfl⟩
      · have HZ : Hid (partOk (bytesOf s) = false) := Lib.hid (by rw [HE.out, decide_eq_false c1]; simp)
        go_wp2
        go_ret
        exact ⟨by rw [HZ.out]; rfl, rfl⟩
end Go.Proofs.Ytdehkaknbmbieaa
namespace Go.Proofs.Ytdehkaknbmbieaa
set_option linter.unusedVariables false
set_option linter.unusedSimpArgs false
set_option linter.unusedSectionVars false
open Go.RowKit
set_option linter.unusedVariables false

theorem infoStr : (Try.prog.info? 9).map (fun i => (i.zero, i.size, i.bytes)) = some (some (.string .empty), 1, 16) := by kernel_rfl
def strV (l : List Nat) : Value := .string (strOf l)
theorem strOf_snoc (s : ByteArray) (cur : List Nat) (i : Nat) (h : i < s.size) : strOf cur ++ s.extract i (i + 1) = strOf (cur ++ [s[i].toNat]) := by
  rw [← strOf_append]
  congr 1
  rw [← strOf_bytesOf (s.extract i (i + 1)), bytesOf_extract]
  congr 1
  rw [show i + 1 - i = 1 by omega, List.drop_eq_getElem_cons (by rw [length_bytesOf]; exact h), bytesOf_get s i h]; rfl
set_option maxRecDepth 100000 in
set_option maxHeartbeats 4000000 in
theorem rsplit13_any (s : ByteArray) (w : World) (hs : s.size ≤ 1100000) : Calls Try.prog 44 #[.string s] w fun e w' =>
    ∃ g cap, e = .returned (.slice (some ⟨g, 0, none⟩) (splitP (bytesOf s)).length cap) ∧ w.heap.size ≤ g ∧ Row w' 9 1 (.slice (some ⟨g, 0, none⟩) (splitP (bytesOf s)).length cap) (splitP (bytesOf s)).length ((splitP (bytesOf s)).map strV) ∧ Upd [] w w' := by
  obtain ⟨i0, hi, hz0, hz1, hz2⟩ := info_parts infoStr
  go_enter Try.func44, Try.ntmps44
  go_wp2
  go_loopg [3, 4, 5] s.size (fun g v t c wr => ∃ (i : Nat) (done : List (List Nat)) (cur : List Nat), i ≤ s.size ∧ done.length ≤ i ∧ cur.length ≤ i ∧ t = .string (strOf cur) ∧ c = .int .i64 (i : Nat) ∧ g = s.size - i ∧ Hid (splitP (bytesOf s) = done ++ joinP cur (splitP ((bytesOf s).drop i))) ∧ Hid (Row wr 9 1 v done.length (done.map strV)) ∧ Hid (∀ b, v.ownBlock = some b → w.heap.size ≤ b) ∧ Hid (Upd [] w wr))
  case atStart => exact ⟨0, [], [], Nat.zero_le _, Nat.zero_le _, Nat.zero_le _, rfl, rfl, rfl, Lib.hid (by rw [List.drop_zero, joinP_nil]; rfl), Lib.hid (Row.nil _ _ _), Lib.hid (by simp [Value.ownBlock]), Lib.hid (Upd.refl _ _)⟩
  case round =>
    obtain ⟨i, done, cur, hi1, hd, hcu, rfl, rfl, rfl, HS, HR, HB, HU⟩ := hrel
    obtain ⟨va, vc, hv⟩ := HR.out.form
    subst hv
    by_cases hc : i < s.size
    · have hbl : s[i].toNat < 256 := s[i].toNat_lt
      have HC := Lib.hid (strOf_snoc s cur i hc)
      have hdr : (bytesOf s).drop i = s[i].toNat :: (bytesOf s).drop (i + 1) := by
        rw [List.drop_eq_getElem_cons (by rw [length_bytesOf]; exact hc), bytesOf_get s i hc]
      have HD := Lib.hid hdr
      have hsz : (strOf cur).size = cur.length := size_strOf cur
      clear hdr
      by_cases h47 : s[i].toNat = 47
      · have t1 : ((s[i].toNat : Int) == 47) = true := by rw [beq_iff_eq]; omega
        have HS2 : Hid (splitP (bytesOf s) = (done ++ [cur]) ++ joinP [] (splitP ((bytesOf s).drop (i + 1)))) := Lib.hid (by rw [HS.out, HD.out, h47, joinP_slash]; simp)
        clear h47 HS HC HD
        go_wp2_with (at_builtin; refine wpList_app _ rfl _ _ 83 rfl 9 i0 _ 1 16 Try.underlying83 hi hz0 hz1 hz2 rfl (by omega) (.slice va done.length vc) done.length _ rfl (HR.out.alloc _) ⟨wr.heap.size, 0, none⟩ 1 1 [_] rfl rfl (World.news_of_block (cs := #[_]) (t := 9) (fr := (0, 0)) (heap_alloc_new _ _)) (by simp [Value.oneCell']) (by unfold maxLen; omega) (by omega) ?_)
        rintro v9 w9 hR9 hU9 hT9
        obtain ⟨va9, vc9, rfl⟩ := hR9.form
        have hB9 : ∀ b, (Value.slice va9 (done.length + 1) vc9).ownBlock = some b → w.heap.size ≤ b := fun b hb => by
          have := HU.out.size
          rcases hT9 with e | ⟨g, e1, e2⟩
          · exact HB.out b (by rw [← e]; exact hb)
          · rw [hb] at e1; simp at e1 e2; omega
        have HF : Hid (Row w9 9 1 (.slice va9 (done.length + 1) vc9) (done ++ [cur]).length ((done ++ [cur]).map strV) ∧ (∀ b, (Value.slice va9 (done.length + 1) vc9).ownBlock = some b → w.heap.size ≤ b) ∧ Upd [] w w9) := Lib.hid ⟨by
            rw [List.length_append, List.map_append]; exact hR9, hB9, (HU.out.then ((Upd.refl _ _).alloc _)).trans hU9 (fun k hk => .inr (HB.out k (by simpa using hk)))⟩
        clear hR9 hU9 hT9 hB9 HR HB HU
        go_wp2
        go_roundg (s.size - (i + 1))
        all_goals first
          | omega
          | exact ⟨i + 1, done ++ [cur], [], by omega, by simp; omega, by simp, rfl, by go_num, rfl, HS2, Lib.hid HF.out.1, Lib.hid HF.out.2.1, Lib.hid HF.out.2.2⟩
      · have t1 : ((s[i].toNat : Int) == 47) = false := by rw [beq_eq_false_iff_ne]; omega
        have HS2 : Hid (splitP (bytesOf s) = done ++ joinP (cur ++ [s[i].toNat]) (splitP ((bytesOf s).drop (i + 1)))) := Lib.hid (by rw [HS.out, HD.out, joinP_step _ _ _ h47])
        clear h47 HS HD
        go_wp2
        go_roundg (s.size - (i + 1))
        all_goals first
          | omega
          | exact ⟨i + 1, done, cur ++ [s[i].toNat], by omega, by omega, by simp; omega, by rw [HC.out], by go_num, rfl, HS2, HR, HB, HU⟩
    · have hlen := length_bytesOf s
      have HS2 : Hid (splitP (bytesOf s) = done ++ [cur]) := Lib.hid (by rw [HS.out, List.drop_of_length_le (by omega)]; simp [splitP, joinP])
      clear HS hlen
      go_wp2_with (at_builtin; refine wpList_app _ rfl _ _ 83 rfl 9 i0 _ 1 16 Try.underlying83 hi hz0 hz1 hz2 rfl (by omega) (.slice va done.length vc) done.length _ rfl (HR.out.alloc _) ⟨wr.heap.size, 0, none⟩ 1 1 [_] rfl rfl (World.news_of_block (cs := #[_]) (t := 9) (fr := (0, 0)) (heap_alloc_new _ _)) (by simp [Value.oneCell']) (by unfold maxLen; omega) (by omega) ?_)
      rintro v9 w9 hR9 hU9 hT9
      obtain ⟨g, cap, rfl, hg1, hg2⟩ := hR9.form' (by omega)
      have hB9 : w.heap.size ≤ g := by
        have := HU.out.size
        rcases hT9 with e | ⟨g', e1, e2⟩
        · exact HB.out g (by rw [← e]; rfl)
        · simp [Value.ownBlock] at e1 e2; omega
      have HF := Lib.hid hR9
      have HUU := Lib.hid ((HU.out.then ((Upd.refl _ _).alloc _)).trans hU9 (fun k hk => .inr (HB.out k (by simpa using hk))))
      clear hR9 hU9 hT9 HR HB HU
      go_wp2
      go_ret
      refine ⟨g, cap, ?_, hB9, ?_, HUU.out⟩
      · rw [HS2.out, List.length_append]; rfl
      · rw [HS2.out, List.length_append, List.map_append]; exact HF.out
theorem head_get (l : List Nat) : ((splitP l).map strV)[0]? = some (.string (strOf ((splitP l).headD []))) := by
  rw [splitP_ht l]; rfl
set_option maxRecDepth 100000 in
set_option maxHeartbeats 4000000 in
theorem rname_any (s : ByteArray) (w : World) (hs : s.size ≤ 1100000) : Calls Try.prog 43 #[.string s] w fun e w' => e = .returned (.bool (rightP (bytesOf s))) ∧ Upd [] w w' := by
  have HSP := Lib.hid (rsplit13_any s w hs)
  have hhd : ∀ x ∈ (splitP (bytesOf s)).headD [], x < 256 := splitP_lt s _ (by
    rw [splitP_ht (bytesOf s)]; simp)
  have HQ := Lib.hid (eq_res _ hhd)
  have HLN := Lib.hid (length_bytesOf s)
  have HH := Lib.hid (head_get (bytesOf s))
  have HLT := Lib.hid (splitP_lt s)
  have hpl := splitP_len (bytesOf s)
  rw [length_bytesOf] at hpl
  have HPL := Lib.hid (splitP_plen (bytesOf s))
  have hpos : 0 < (splitP (bytesOf s)).length := List.length_pos_iff.2 (splitP_ne _)
  clear hhd
  go_enter Try.func43, Try.ntmps43
  go_wp2_with fail
  refine HSP.out.mono ?_
  rintro e w1 ⟨g, cap, rfl, hg, hR, hU⟩
  have HR := Lib.hid hR
  have HU := Lib.hid hU
  clear hR hU HSP
  obtain ⟨P, hP⟩ : ∃ P, splitP (bytesOf s) = P := ⟨_, rfl⟩
  have HP := Lib.hid hP
  rw [hP] at HR HQ HLT HPL HH hpos hpl ⊢
  clear hP
  by_cases h200 : 200 < s.size
  · have HE := Lib.hid (rightP_long (l := bytesOf s) (by rw [HLN.out]; exact h200))
    go_wp2
    go_ret
    exact ⟨by rw [HE.out]; rfl, HU.out⟩
  · by_cases h12 : 12 < P.length
    · have HE := Lib.hid (rightP_many (l := bytesOf s) (by rw [HP.out]; exact h12))
      go_wp2
      go_ret
      exact ⟨by rw [HE.out]; rfl, HU.out⟩
    · have c0 := HR.out.cell 0 HH.out
      by_cases hres : P.headD [] = resP
      · have HE := Lib.hid (rightP_res (l := bytesOf s) (by rw [HP.out]; exact hres))
        have t1 := HQ.out.trans (decide_eq_true hres)
        clear hres
        generalize P.headD [] = hd at *
        go_wp2
        go_ret
        exact ⟨by rw [HE.out]; rfl, HU.out⟩
      · have t1 := HQ.out.trans (decide_eq_false hres)
        have HNE : Hid ((splitP (bytesOf s)).headD [] ≠ resP) := Lib.hid (by rw [HP.out]; exact hres)
        clear hres
        generalize P.headD [] = hd at *
        go_wp2
        go_loopg [24] P.length (fun g' t wr => ∃ k : Nat, k ≤ P.length ∧ t = .int .i64 (k : Nat) ∧ g' = P.length - k ∧ Hid (∀ (i : Nat) p, i < k → P[i]? = some p → partOk p = true) ∧ w1 = wr)
        case atStart => exact ⟨0, Nat.zero_le _, rfl, rfl, Lib.hid (fun i p h => by omega), rfl⟩
        case round =>
          obtain ⟨k, hk, rfl, rfl, HA, rfl⟩ := hrel
          clear c0 t1
          by_cases hc : k < P.length
          · have hgk : (P.map strV)[k]? = some (.string (strOf P[k])) := by rw [List.getElem?_map, List.getElem?_eq_getElem hc]; rfl
            have ck := HR.out.cell k hgk
            have hmem : P[k] ∈ P := List.getElem_mem hc
            have hpz : (strOf P[k]).size ≤ 1100000 := by rw [size_strOf]; have := HPL.out _ hmem; have := HLN.out; omega
            have HPT := Lib.hid (fun w => rpart_any (strOf P[k]) w hpz)
            rw [bytesOf_strOf _ (HLT.out _ hmem)] at HPT
            have HM : Hid (P[k] ∈ splitP (bytesOf s)) := Lib.hid (by rw [HP.out]; exact hmem)
            have HGK : Hid (P[k]? = some P[k]) := Lib.hid (List.getElem?_eq_getElem hc)
            clear hgk hmem hpz
            obtain ⟨p, hp⟩ : ∃ p, P[k] = p := ⟨_, rfl⟩
            rw [hp] at ck HPT HM HGK
            clear hp
            cases hpo : partOk p with
            | true =>
              rw [hpo] at HPT
              have HA2 : Hid (∀ (i : Nat) p, i < k + 1 → P[i]? = some p → partOk p = true) := Lib.hid (fun i q h1 h2 => by
                by_cases e : i = k
                · subst e; rw [HGK.out] at h2; simp at h2; subst h2; exact hpo
                · exact HA.out i q (by omega) h2)
              clear hpo HA HM HGK
              go_wp2_with (go_at_call 71; refine (HPT.out _).mono ?_; rintro e w' ⟨rfl, rfl⟩)
              go_roundg (P.length - (k + 1))
              all_goals first
                | omega
                | exact ⟨k + 1, by omega, by go_num, rfl, HA2, rfl⟩
            | false =>
              rw [hpo] at HPT
              have HE := Lib.hid (rightP_bad HM.out hpo)
              clear hpo HA HM HGK
              go_wp2_with (go_at_call 71; refine (HPT.out _).mono ?_; rintro e w' ⟨rfl, rfl⟩)
              go_ret
              exact ⟨by rw [HE.out]; rfl, HU.out⟩
          · have HE : Hid (rightP (bytesOf s) = true) := Lib.hid (rightP_yes (by rw [HLN.out]; omega) HNE.out (by rw [HP.out]; omega) (fun p hp => by
              rw [HP.out] at hp
              obtain ⟨i, hi, e⟩ := List.getElem_of_mem hp
              exact HA.out i p (by omega) (by rw [List.getElem?_eq_getElem hi, e])))
            clear HA
            go_wp2
            go_ret
            exact ⟨by rw [HE.out]; rfl, HU.out⟩
end Go.Proofs.Ytdehkaknbmbieaa
