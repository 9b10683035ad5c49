/- []string: swingleref01.Same, slices.Equal: walks. -/
import Derived.Test.YtibmhadnfggmlaaDoorSplW
import Derived.Test.YtibmhadnfggmlaaDoorDPar
import Derived.Deep.QuietTactic
import Derived.BigQuiet
namespace Go.Proofs.YtibmhadnfggmlaaDoor
set_option linter.unusedVariables false
set_option linter.unusedSimpArgs false
set_option linter.unusedSectionVars false
open Go.RowKit
set_option linter.unusedVariables false
set_option linter.unusedSimpArgs false

theorem strOf_neq (p q : List Nat) (hp : ∀ x ∈ p, x < 256) (hq : ∀ x ∈ q, x < 256) : ((strOf p).toList != (strOf q).toList) = decide (p ≠ q) := by
  rw [bne, strOf_eqS p (strOf q) hp, bytesOf_strOf q hq]
  by_cases h : p = q
  · rw [decide_eq_true h, decide_eq_false (fun k => k h)]; rfl
  · rw [decide_eq_false h, decide_eq_true h]; rfl
theorem drewN_two (w : World) (a b : Nat) : ∃ k, (w.drewN a).drewN b = w.drewN k := ⟨a + b, by rw [World.drewN_drewN]⟩
theorem TextsAt.drewN {w : World} {v : Value} {l : List (List Nat)} (h : TextsAt w v l) (n : Nat) : TextsAt (w.drewN n) v l := h.upd ((Upd.refl [] w).drewN n)
set_option maxRecDepth 100000 in
set_option maxHeartbeats 3200000 in
theorem rsame01_any (ps qs : List (List Nat)) (v1 v2 : Value) (w : World) (h1 : TextsAt w v1 ps) (h2 : TextsAt w v2 qs) (hp : ∀ p ∈ ps, ∀ x ∈ p, x < 256) (hq : ∀ p ∈ qs, ∀ x ∈ p, x < 256) (hl : ps.length ≤ 1000000) (hl2 : qs.length ≤ 1000000) :
    Calls Tryd.prog 15 #[v1, v2] w fun e w' => e = .returned (.bool (decide (ps = qs))) ∧ Upd [] w w' := by
  obtain ⟨a1, c1, rfl, hc1, h1⟩ := h1
  obtain ⟨a2, c2, rfl, hc2, h2⟩ := h2
  by_cases hll : ps.length = qs.length
  rotate_left
  · have t1 : ((ps.length : Int) != (qs.length : Int)) = true := by rw [bne_iff_ne]; omega
    have t1n : (ps.length != qs.length) = true := by rw [bne_iff_ne]; omega
    have hne : Hid (decide (ps = qs) = false) := Lib.hid (decide_eq_false (fun e => hll (by rw [e])))
    have HLL := Lib.hid hll
    clear hll h1 h2
    go_enter Tryd.func15, Tryd.ntmps15
    go_wp2
    go_ret
    exact ⟨by rw [hne.out]; rfl, Upd.refl _ _⟩
  · have H1 := Lib.hid h1
    have H2 := Lib.hid h2
    have HP := Lib.hid hp
    have HQ := Lib.hid hq
    have HLL := Lib.hid hll
    obtain ⟨n, hn⟩ : ∃ n, ps.length = n := ⟨_, rfl⟩
    obtain ⟨n2, hn2⟩ : ∃ n, qs.length = n := ⟨_, rfl⟩
    have t1 : ((n : Int) != (n2 : Int)) = false := by rw [bne_eq_false_iff_eq]; omega
    have t1n : (n != n2) = false := by rw [bne_eq_false_iff_eq]; omega
    have HN := Lib.hid hn
    have HN2 := Lib.hid hn2
    rw [hn] at hc1 hl ⊢
    rw [hn2] at hc2 hl2 ⊢
    clear h1 h2 hp hq hll hn hn2
    go_enter Tryd.func15, Tryd.ntmps15
    go_wp2
    go_loopg [13] n (fun gg s13 wr => ∃ i, i ≤ n ∧ gg = n - i ∧ s13 = .int .i64 (i : Nat) ∧ Hid (ps.take i = qs.take i) ∧ Hid (∃ k, wr = w.drewN k))
    case atStart => exact ⟨0, Nat.zero_le _, rfl, rfl, Lib.hid rfl, Lib.hid ⟨0, rfl⟩⟩
    case round =>
      obtain ⟨i, hin, rfl, rfl, HT, HW⟩ := hrel
      by_cases hc : i < n
      · have hcz : (i : Int) < (n : Int) := by omega
        have hi1 : i < ps.length := by rw [HN.out]; exact hc
        have hi2 : i < qs.length := by rw [← HLL.out]; exact hi1
        have hin2 : i < n2 := by rw [← HN2.out]; exact hi2
        obtain ⟨b1, o1, rfl, d1⟩ := H1.out i hi1
        obtain ⟨b2, o2, rfl, d2⟩ := H2.out i hi2
        obtain ⟨kk, hkk⟩ := HW.out
        have d1' : wr.cell? ⟨b1, o1 + i, none⟩ = some (.string (strOf ps[i])) := by rw [hkk]; exact d1
        have d2' : wr.cell? ⟨b2, o2 + i, none⟩ = some (.string (strOf qs[i])) := by rw [hkk]; exact d2
        have hne := strOf_neq ps[i] qs[i] (HP.out _ (List.getElem_mem hi1)) (HQ.out _ (List.getElem_mem hi2))
        have HS1 : Hid (ps.take (i + 1) = ps.take i ++ [ps[i]]) := Lib.hid (List.take_succ_eq_append_getElem hi1)
        have HS2 : Hid (qs.take (i + 1) = qs.take i ++ [qs[i]]) := Lib.hid (List.take_succ_eq_append_getElem hi2)
        have HG1 : Hid (ps[i]? = some ps[i] ∧ qs[i]? = some qs[i]) := Lib.hid ⟨List.getElem?_eq_getElem hi1, List.getElem?_eq_getElem hi2⟩
        generalize ps[i] = P1 at *
        generalize qs[i] = P2 at *
        have HKK := Lib.hid hkk
        clear d1 d2 hkk hi1 hi2
        by_cases he : P1 = P2
        · have t2 : ((strOf P1).toList != (strOf P2).toList) = false := by rw [hne]; exact decide_eq_false (fun k => k he)
          have t3 : ((strOf P1).toList == (strOf P2).toList) = true := by rw [he]; simp
          have HE := Lib.hid he
          clear hne he
          generalize strOf P1 = Q1 at *
          generalize strOf P2 = Q2 at *
          go_wp2
          go_quiet (fail)
          go_wp2
          go_roundg (n - (i + 1))
          · exact ⟨i + 1, by omega, rfl, by first | rfl | go_num, Lib.hid (by rw [HS1.out, HS2.out, HT.out, HE.out]), Lib.hid (by rw [HKK.out]; exact drewN_two w _ _)⟩
          · omega
        · have t2 : ((strOf P1).toList != (strOf P2).toList) = true := by rw [hne]; exact decide_eq_true he
          have t3 : ((strOf P1).toList == (strOf P2).toList) = false := by
            cases h : ((strOf P1).toList == (strOf P2).toList) with
            | false => rfl
            | true => rw [bne, h] at t2; cases t2
          have HD : Hid (decide (ps = qs) = false) := Lib.hid (decide_eq_false (fun e => he (by
            have := HG1.out
            rw [e] at this
            have h3 := this.1.symm.trans this.2
            exact Option.some.inj h3)))
          have HE := Lib.hid he
          clear hne he
          generalize strOf P1 = Q1 at *
          generalize strOf P2 = Q2 at *
          go_wp2
          go_quiet (fail)
          go_wp2
          go_ret
          exact ⟨by rw [HD.out]; rfl, by rw [HKK.out]; exact ((Upd.refl [] w).drewN _).drewN _⟩
      · have hcz : ¬ (i : Int) < (n : Int) := by omega
        have HD : Hid (decide (ps = qs) = true) := Lib.hid (decide_eq_true (by
          have h := HT.out
          rw [List.take_of_length_le (by have := HN.out; omega), List.take_of_length_le (by have := HN.out; have := HLL.out; omega)] at h
          exact h))
        go_wp2
        go_ret
        obtain ⟨k, rfl⟩ := HW.out
        exact ⟨by rw [HD.out]; rfl, (Upd.refl _ _).drewN _⟩
set_option maxRecDepth 100000 in
set_option maxHeartbeats 3200000 in
theorem slEqual_any (ps qs : List (List Nat)) (v1 v2 : Value) (w : World) (h1 : TextsAt w v1 ps) (h2 : TextsAt w v2 qs) (hp : ∀ p ∈ ps, ∀ x ∈ p, x < 256) (hq : ∀ p ∈ qs, ∀ x ∈ p, x < 256) (hl : ps.length ≤ 1000000) (hl2 : qs.length ≤ 1000000) :
    Calls Tryd.prog 58 #[v1, v2] w fun e w' => e = .returned (.bool (decide (ps = qs))) ∧ Upd [] w w' := by
  obtain ⟨a1, c1, rfl, hc1, h1⟩ := h1
  obtain ⟨a2, c2, rfl, hc2, h2⟩ := h2
  by_cases hll : ps.length = qs.length
  rotate_left
  · have t1 : ((ps.length : Int) != (qs.length : Int)) = true := by rw [bne_iff_ne]; omega
    have t1n : (ps.length != qs.length) = true := by rw [bne_iff_ne]; omega
    have hne : Hid (decide (ps = qs) = false) := Lib.hid (decide_eq_false (fun e => hll (by rw [e])))
    have HLL := Lib.hid hll
    clear hll h1 h2
    go_enter Tryd.func58, Tryd.ntmps58
    go_wp2
    go_ret
    exact ⟨by rw [hne.out]; rfl, Upd.refl _ _⟩
  · have H1 := Lib.hid h1
    have H2 := Lib.hid h2
    have HP := Lib.hid hp
    have HQ := Lib.hid hq
    have HLL := Lib.hid hll
    obtain ⟨n, hn⟩ : ∃ n, ps.length = n := ⟨_, rfl⟩
    obtain ⟨n2, hn2⟩ : ∃ n, qs.length = n := ⟨_, rfl⟩
    have t1 : ((n : Int) != (n2 : Int)) = false := by rw [bne_eq_false_iff_eq]; omega
    have t1n : (n != n2) = false := by rw [bne_eq_false_iff_eq]; omega
    have HN := Lib.hid hn
    have HN2 := Lib.hid hn2
    rw [hn] at hc1 hl ⊢
    rw [hn2] at hc2 hl2 ⊢
    clear h1 h2 hp hq hll hn hn2
    go_enter Tryd.func58, Tryd.ntmps58
    go_wp2
    go_loopg [13] n (fun gg s13 wr => ∃ i, i ≤ n ∧ gg = n - i ∧ s13 = .int .i64 (i : Nat) ∧ Hid (ps.take i = qs.take i) ∧ Hid (∃ k, wr = w.drewN k))
    case atStart => exact ⟨0, Nat.zero_le _, rfl, rfl, Lib.hid rfl, Lib.hid ⟨0, rfl⟩⟩
    case round =>
      obtain ⟨i, hin, rfl, rfl, HT, HW⟩ := hrel
      by_cases hc : i < n
      · have hcz : (i : Int) < (n : Int) := by omega
        have hi1 : i < ps.length := by rw [HN.out]; exact hc
        have hi2 : i < qs.length := by rw [← HLL.out]; exact hi1
        have hin2 : i < n2 := by rw [← HN2.out]; exact hi2
        obtain ⟨b1, o1, rfl, d1⟩ := H1.out i hi1
        obtain ⟨b2, o2, rfl, d2⟩ := H2.out i hi2
        obtain ⟨kk, hkk⟩ := HW.out
        have d1' : wr.cell? ⟨b1, o1 + i, none⟩ = some (.string (strOf ps[i])) := by rw [hkk]; exact d1
        have d2' : wr.cell? ⟨b2, o2 + i, none⟩ = some (.string (strOf qs[i])) := by rw [hkk]; exact d2
        have hne := strOf_neq ps[i] qs[i] (HP.out _ (List.getElem_mem hi1)) (HQ.out _ (List.getElem_mem hi2))
        have HS1 : Hid (ps.take (i + 1) = ps.take i ++ [ps[i]]) := Lib.hid (List.take_succ_eq_append_getElem hi1)
        have HS2 : Hid (qs.take (i + 1) = qs.take i ++ [qs[i]]) := Lib.hid (List.take_succ_eq_append_getElem hi2)
        have HG1 : Hid (ps[i]? = some ps[i] ∧ qs[i]? = some qs[i]) := Lib.hid ⟨List.getElem?_eq_getElem hi1, List.getElem?_eq_getElem hi2⟩
        generalize ps[i] = P1 at *
        generalize qs[i] = P2 at *
        have HKK := Lib.hid hkk
        clear d1 d2 hkk hi1 hi2
        by_cases he : P1 = P2
        · have t2 : ((strOf P1).toList != (strOf P2).toList) = false := by rw [hne]; exact decide_eq_false (fun k => k he)
          have t3 : ((strOf P1).toList == (strOf P2).toList) = true := by rw [he]; simp
          have HE := Lib.hid he
          clear hne he
          generalize strOf P1 = Q1 at *
          generalize strOf P2 = Q2 at *
          go_wp2
          go_quiet (fail)
          go_wp2
          go_roundg (n - (i + 1))
          · exact ⟨i + 1, by omega, rfl, by first | rfl | go_num, Lib.hid (by rw [HS1.out, HS2.out, HT.out, HE.out]), Lib.hid (by rw [HKK.out]; exact drewN_two w _ _)⟩
          · omega
        · have t2 : ((strOf P1).toList != (strOf P2).toList) = true := by rw [hne]; exact decide_eq_true he
          have t3 : ((strOf P1).toList == (strOf P2).toList) = false := by
            cases h : ((strOf P1).toList == (strOf P2).toList) with
            | false => rfl
            | true => rw [bne, h] at t2; cases t2
          have HD : Hid (decide (ps = qs) = false) := Lib.hid (decide_eq_false (fun e => he (by
            have := HG1.out
            rw [e] at this
            have h3 := this.1.symm.trans this.2
            exact Option.some.inj h3)))
          have HE := Lib.hid he
          clear hne he
          generalize strOf P1 = Q1 at *
          generalize strOf P2 = Q2 at *
          go_wp2
          go_quiet (fail)
          go_wp2
          go_ret
          exact ⟨by rw [HD.out]; rfl, by rw [HKK.out]; exact ((Upd.refl [] w).drewN _).drewN _⟩
      · have hcz : ¬ (i : Int) < (n : Int) := by omega
        have HD : Hid (decide (ps = qs) = true) := Lib.hid (decide_eq_true (by
          have h := HT.out
          rw [List.take_of_length_le (by have := HN.out; omega), List.take_of_length_le (by have := HN.out; have := HLL.out; omega)] at h
          exact h))
        go_wp2
        go_ret
        obtain ⟨k, rfl⟩ := HW.out
        exact ⟨by rw [HD.out]; rfl, (Upd.refl _ _).drewN _⟩
end Go.Proofs.YtibmhadnfggmlaaDoor
