/- Package swingleref13: Part. -/
import Derived.Test.YtibmhadnfggmlaaDoorRef13U
namespace Go.Proofs.YtibmhadnfggmlaaDoor
open Go.RowKit
set_option linter.unusedVariables false

set_option maxRecDepth 100000 in
set_option maxHeartbeats 4000000 in
theorem rpart_any (s : ByteArray) (w : World) (hs : s.size ≤ 1000000) : Calls Tryd.prog 124 #[.string s] w fun e w' => e = .returned (.bool (partOk (bytesOf s))) ∧ w = w' := by
  go_enter Tryd.func124, Tryd.ntmps124
  go_wp2
  go_loopg [3] s.size (fun g t wr => ∃ k : Nat, k ≤ s.size ∧ t = .int .i64 (k : Nat) ∧ g = s.size - k ∧ Hid (∀ i c : Nat, i < k → (bytesOf s)[i]? = some c → badC c = false) ∧ w = wr)
  case atStart => exact ⟨0, Nat.zero_le _, rfl, rfl, Lib.hid (fun i c h => by omega), rfl⟩
  case round =>
    obtain ⟨k, hk, rfl, rfl, HA, rfl⟩ := hrel
    by_cases hc : k < s.size
    · have HG := Lib.hid (bytesOf_get? s k hc)
      cases hb : badC s[k].toNat with
      | true =>
        have HE := Lib.hid (partOk_bad HG.out hb)
        unfold badC at hb
        have HB := Lib.hid hb
        clear hb HA HG
        have fin : ∀ b : Bool, b = false → Ending.returned (.bool b) = .returned (.bool (partOk (bytesOf s))) := fun b h => by rw [h, HE.out]
        have FIN := Lib.hid fin
        clear fin
        by_cases c1 : s[k].toNat < 32
        · have t1 : decide ((s[k].toNat : Int) < 32) = true := decide_eq_true (by omega)
          go_wp2
          go_ret
          exact ⟨FIN.out _ rfl, rfl⟩
        · have t1 : decide ((s[k].toNat : Int) < 32) = false := decide_eq_false (by omega)
          by_cases c2 : s[k].toNat = 127
          · have t2 : ((s[k].toNat : Int) == 127) = true := by rw [beq_iff_eq]; omega
            clear c1 c2
            go_wp2
            go_ret
            exact ⟨FIN.out _ rfl, rfl⟩
          · have t2 : ((s[k].toNat : Int) == 127) = false := by rw [beq_eq_false_iff_ne]; omega
            by_cases c3 : s[k].toNat = 47
            · have t3 : ((s[k].toNat : Int) == 47) = true := by rw [beq_iff_eq]; omega
              clear c1 c2 c3
              go_wp2
              go_ret
              exact ⟨FIN.out _ rfl, rfl⟩
            · have t3 : ((s[k].toNat : Int) == 47) = false := by rw [beq_eq_false_iff_ne]; omega
              by_cases c4 : s[k].toNat = 92
              · have t4 : ((s[k].toNat : Int) == 92) = true := by rw [beq_iff_eq]; omega
                clear c1 c2 c3 c4
                go_wp2
                go_ret
                exact ⟨FIN.out _ rfl, rfl⟩
              · have t4 : ((s[k].toNat : Int) == 92) = false := by rw [beq_eq_false_iff_ne]; omega
                have t5 : ((s[k].toNat : Int) == 58) = true := by
                  have := HB.out
                  simp [c1, c2, c3, c4] at this
                  rw [beq_iff_eq]; omega
                clear c1 c2 c3 c4
                go_wp2
                go_ret
                exact ⟨FIN.out _ rfl, rfl⟩
      | false =>
        have HA2 : Hid (∀ i c : Nat, i < k + 1 → (bytesOf s)[i]? = some c → badC c = false) := Lib.hid (fun i c h1 h2 => by
          by_cases e : i = k
          · subst e; rw [HG.out] at h2; simp at h2; subst h2; exact hb
          · exact HA.out i c (by omega) h2)
        unfold badC at hb
        simp only [Bool.or_eq_false_iff, decide_eq_false_iff_not] at hb
        obtain ⟨⟨⟨⟨c1, c2⟩, c3⟩, c4⟩, c5⟩ := hb
        have t1 : decide ((s[k].toNat : Int) < 32) = false := decide_eq_false (by omega)
        have t2 : ((s[k].toNat : Int) == 127) = false := by rw [beq_eq_false_iff_ne]; omega
        have t3 : ((s[k].toNat : Int) == 47) = false := by rw [beq_eq_false_iff_ne]; omega
        have t4 : ((s[k].toNat : Int) == 92) = false := by rw [beq_eq_false_iff_ne]; omega
        have t5 : ((s[k].toNat : Int) == 58) = false := by rw [beq_eq_false_iff_ne]; omega
        clear c1 c2 c3 c4 c5 HA HG
        go_wp2
        go_roundg (s.size - (k + 1))
        all_goals first
          | omega
          | exact ⟨k + 1, by omega, by go_num, rfl, HA2, rfl⟩
    · have hlen := length_bytesOf s
      have HE := Lib.hid (partOk_eq (l := bytesOf s) (fun i c h => HA.out i c (by have := (List.getElem?_eq_some_iff.1 h).1; omega) h))
      rw [hlen] at HE
      obtain rfl : k = s.size := by omega
      have HL := Lib.hid (fun w => utf8_any s w hs)
      have HD1 := Lib.hid (ne_dot s)
      have HD2 := Lib.hid (ne_dots s)
      clear hlen HA hc hk
      by_cases c1 : 1 ≤ s.size
      · by_cases c2 : s.size ≤ 60
        · by_cases c3 : bytesOf s = [46]
          · have t3 : (s.toList == [46]) = true := HD1.out.trans (decide_eq_true c3)
            have HZ : Hid (partOk (bytesOf s) = false) := Lib.hid (by rw [HE.out]; simp [c3])
            clear c3
            go_wp2
            go_ret
            exact ⟨by rw [HZ.out]; rfl, rfl⟩
          · have t3 : (s.toList == [46]) = false := HD1.out.trans (decide_eq_false c3)
            by_cases c4 : bytesOf s = [46, 46]
            · have t4 : (s.toList == [46, 46]) = true := HD2.out.trans (decide_eq_true c4)
              have HZ : Hid (partOk (bytesOf s) = false) := Lib.hid (by rw [HE.out]; simp [c4])
              clear c3 c4
              go_wp2
              go_ret
              exact ⟨by rw [HZ.out]; rfl, rfl⟩
            · have t4 : (s.toList == [46, 46]) = false := HD2.out.trans (decide_eq_false c4)
              have HZ : Hid (partOk (bytesOf s) = utfP (bytesOf s)) := Lib.hid (by rw [HE.out, decide_eq_true c1, decide_eq_true c2, decide_eq_true c3, decide_eq_true c4]; simp)
              clear c3 c4
              go_wp2_with (go_at_call 149; refine (HL.out _).mono ?_; rintro e w' ⟨rfl, rfl⟩)
              go_ret
              exact ⟨by rw [HZ.out]; rfl, rfl⟩
        · have HZ : Hid (partOk (bytesOf s) = false) := Lib.hid (by rw [HE.out, decide_eq_false c2]; simp)
          go_wp2
          go_ret
          exact ⟨by rw [HZ.out]; rfl, rfl⟩
      · have HZ : Hid (partOk (bytesOf s) = false) := Lib.hid (by rw [HE.out, decide_eq_false c1]; simp)
        go_wp2
        go_ret
        exact ⟨by rw [HZ.out]; rfl, rfl⟩
end Go.Proofs.YtibmhadnfggmlaaDoor
