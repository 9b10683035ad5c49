/- Law 05: LensLeast: its walk. -/
import Derived.Test.YtdehkaknbmbieaaBest
namespace Go.Proofs.Ytdehkaknbmbieaa
set_option linter.unusedVariables false
set_option linter.unusedSimpArgs false
set_option linter.unusedSectionVars false
open Go.RowKit
set_option linter.unusedVariables false
set_option linter.unusedSimpArgs false

set_option maxRecDepth 100000 in
set_option maxHeartbeats 6400000 in
theorem law_lensLeast (many : List Int) (a : Option Addr) (n cap : Nat) (L : Int) (w : World) (hI : IntsIn w a n many) (hn : n ≤ 17592186044416) :
    Calls Try.prog 4 #[.slice a n cap, .int .i64 L] w fun e w' => LivesP w e w' := by
  have HRU := Lib.hid (rused_any many a n cap w hI hn)
  have HI := Lib.hid hI
  have HLN := Lib.hid hI.len
  clear hI
  go_enter Try.func4, Try.ntmps4
  go_wp2_with fail
  refine HRU.out.mono ?_
  rintro e w1 ⟨v1, u, rfl, hu, hO1, hU1⟩
  obtain ⟨a1, c1, rfl⟩ := hO1.form
  obtain ⟨k, hk⟩ : ∃ k, u.length = k := ⟨_, rfl⟩
  rw [length_i64s, hk]
  have HUs := Lib.hid hu
  have HK := Lib.hid hk
  have HUc := Lib.hid hU1
  clear hu hO1 hU1 hk HRU
  by_cases hb3 : 300 < n
  · have hb3z : (300 : Int) < (n : Int) := by omega
    go_wp2_with fail
    refine (lives_any _).mono ?_
    rintro e w9 ⟨rfl, hU9⟩
    have HU9 := Lib.hid (HUc.out.then hU9)
    clear hU9
    go_wp2
    go_ret
    exact ⟨rfl, HU9.out⟩
  have hb3z : ¬ (300 : Int) < (n : Int) := by omega
  by_cases hk2 : k < 2
  · have hk2z : (k : Int) < 2 := by omega
    go_wp2_with fail
    refine (lives_any _).mono ?_
    rintro e w9 ⟨rfl, hU9⟩
    have HU9 := Lib.hid (HUc.out.then hU9)
    clear hU9
    go_wp2
    go_ret
    exact ⟨rfl, HU9.out⟩
  have hk2z : ¬ (k : Int) < 2 := by omega
  by_cases hk8 : 8 < k
  · have hk8z : (8 : Int) < (k : Int) := by omega
    go_wp2_with fail
    refine (lives_any _).mono ?_
    rintro e w9 ⟨rfl, hU9⟩
    have HU9 := Lib.hid (HUc.out.then hU9)
    clear hU9
    go_wp2
    go_ret
    exact ⟨rfl, HU9.out⟩
  have hk8z : ¬ (8 : Int) < (k : Int) := by omega
  by_cases hb1 : L < 1
  ·
    go_wp2_with fail
    refine (lives_any _).mono ?_
    rintro e w9 ⟨rfl, hU9⟩
    have HU9 := Lib.hid (HUc.out.then hU9)
    clear hU9
    go_wp2
    go_ret
    exact ⟨rfl, HU9.out⟩
  by_cases hb2 : 7 < L
  ·
    go_wp2_with fail
    refine (lives_any _).mono ?_
    rintro e w9 ⟨rfl, hU9⟩
    have HU9 := Lib.hid (HUc.out.then hU9)
    clear hU9
    go_wp2
    go_ret
    exact ⟨rfl, HU9.out⟩
  obtain ⟨l, rfl⟩ : ∃ l : Nat, L = (l : Int) := ⟨L.toNat, by omega⟩
  have hl1 : 1 ≤ l := by omega
  have hl2 : l ≤ 7 := by omega
  obtain ⟨P, hP⟩ : ∃ P : Nat, 2 ^ l = P := ⟨_, rfl⟩
  have hPb : P ≤ 128 := by
    have := Nat.pow_le_pow_right (n := 2) (by omega) hl2
    omega
  have hpw : wrap64 ((2 : Int) ^ l) = (P : Int) := by
    have : ((2 : Int) ^ l) = (P : Int) := by rw [← hP]; simp
    rw [this]
    unfold wrap64
    omega
  have HPP := Lib.hid hP
  clear hP
  by_cases hb4 : P < k
  · have hb4z : (P : Int) < (k : Int) := by omega
    go_wp2_with fail
    refine (lives_any _).mono ?_
    rintro e w9 ⟨rfl, hU9⟩
    have HU9 := Lib.hid (HUc.out.then hU9)
    clear hU9
    go_wp2
    go_ret
    exact ⟨rfl, HU9.out⟩
  have hb4z : ¬ (P : Int) < (k : Int) := by omega
  have HOF := Lib.hid (of_any many a n cap (l : Int) w1 (HI.out.pure HUc.out) (by omega))
  go_wp2_with fail
  refine HOF.out.mono ?_
  rintro e w2 ⟨v2, u2, rfl, hu2, hof, hU2⟩
  obtain rfl := hu2.uniq HUs.out
  have hof2 : ∃ ob, v2 = .slice (some ⟨ob, 0, none⟩) n n ∧ Blk w2 ob (i64s (ofL many u2 l n)) 3 := by
    rcases hof with ⟨h, _⟩ | ⟨_, ob, h1, h2, h3⟩
    · exfalso
      unfold OfBad at h
      rw [show (l : Int).toNat = l by omega, HPP.out, HK.out] at h
      omega
    · rw [show (l : Int).toNat = l by omega] at h3
      exact ⟨ob, h1, h3⟩
  obtain ⟨ob, rfl, hB2⟩ := hof2
  have hun : IsUsed many n u2 := by have := HUs.out; rwa [HLN.out] at this
  have HF := of_fits HLN.out hun l hl1 (by omega) (by rw [HK.out, HPP.out]; omega)
  have HBS := best_is HLN.out hun l (by rw [HK.out]; omega) (by rw [HK.out, HPP.out]; omega)
  generalize ofL many u2 l n = LN at *
  have HU2 := Lib.hid (HUc.out.then hU2)
  have hIL : IntsIn w2 (some ⟨ob, 0, none⟩) n (ints LN) := IntsIn.blk hB2 HF.len (fun x hx => by
    obtain ⟨j, hj, rfl⟩ := List.getElem_of_mem hx
    have := HF.le j (by rw [← HF.len]; exact hj)
    rw [List.getD_eq_getElem?_getD, List.getElem?_eq_getElem hj] at this
    simp at this
    omega)
  have HC := Lib.hid (cost_any LN many (some ⟨ob, 0, none⟩) a n n cap w2 hIL (HI.out.pure HU2.out) (by omega) (fun i hi => by have := HF.le i hi; omega))
  have HBE := Lib.hid (fun w3 (h : Upd [] w w3) => best_any many u2 a n cap l w3 (HI.out.pure h) (by omega) (by omega) hl1 HUs.out (by rw [HK.out]; omega))
  rw [HBS] at HBE
  generalize sumN n (fun i => LN.getD i 0 * nearN (many.getD i 0)) = C at *
  clear hof hu2 hU2 hB2 hIL HF HBS hun HOF HUc
  go_wp2_with fail
  refine HC.out.mono ?_
  rintro e w3 ⟨rfl, hU3⟩
  have HU3 := Lib.hid (HU2.out.then hU3)
  clear hU3
  go_wp2_with fail
  refine (HBE.out _ HU3.out).mono ?_
  rintro e w4 ⟨rfl, hU4⟩
  have HUc := Lib.hid (HU3.out.then hU4)
  rw [optI_some]
  clear hU4 HC HBE
  go_wp2_with fail
  refine (lives_any _).mono ?_
  rintro e w9 ⟨rfl, hU9⟩
  have HU9 := Lib.hid (HUc.out.then hU9)
  clear hU9
  go_wp2
  go_ret
  exact ⟨rfl, HU9.out⟩
end Go.Proofs.Ytdehkaknbmbieaa
