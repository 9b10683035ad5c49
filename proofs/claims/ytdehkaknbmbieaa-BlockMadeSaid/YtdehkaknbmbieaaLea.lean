/- Reference of lens: Least: its walk. -/
import Derived.Test.YtdehkaknbmbieaaLeaP
import Derived.Test.YtdehkaknbmbieaaSame
namespace Go.Proofs.Ytdehkaknbmbieaa
set_option linter.unusedVariables false
set_option linter.unusedSimpArgs false
set_option linter.unusedSectionVars false
open Go.RowKit
set_option linter.unusedVariables false
set_option linter.unusedSimpArgs false

theorem w64 (y : Nat) (h : y ≤ 4611686018427387904) : wrap64 (y : Int) = (y : Int) := by
  unfold wrap64
  omega
def optI : Option Nat → Int
  | none => -1
  | some v => (v : Int)
theorem optI_none : optI none = -1 := rfl
theorem optI_some (v : Nat) : optI (some v) = (v : Int) := rfl
theorem costP_le (K W : Nat) : ∀ (ks l : List Nat), (∀ k ∈ ks, k ≤ K) → (∀ x ∈ l, x ≤ W) → costP ks l ≤ K * W * l.length
  | [], l, _, _ => by simp [costP]
  | _ :: _, [], _, _ => by simp [costP]
  | k :: ks, x :: l, h1, h2 => by
    have ih := costP_le K W ks l (fun k hk => h1 k (List.mem_cons_of_mem _ hk)) (fun x hx => h2 x (List.mem_cons_of_mem _ hx))
    have h3 : k * x ≤ K * W := Nat.mul_le_mul (h1 k List.mem_cons_self) (h2 x List.mem_cons_self)
    rw [costP_cons, List.length_cons, Nat.mul_add]
    omega
theorem least_bd {l : List Nat} {f limit room v : Nat} (h : leastP l f limit room = some v) (hl : limit ≤ 15) (hw : ∀ x ∈ l, x ≤ 1073741824) (hn : l.length ≤ 100) : v ≤ 1610612736000 := by
  obtain ⟨ks, h1, h2, _, rfl⟩ := least_sound l f limit room v h
  have := costP_le 15 1073741824 ks l (fun k hk => by have := h2 k hk; omega) hw
  have h3 : 15 * 1073741824 * l.length ≤ 15 * 1073741824 * 100 := Nat.mul_le_mul_left _ hn
  omega
theorem leaTo_bd {x : Nat} {l : List Nat} {f limit room m v : Nat} (h : leaTo x l f limit room m = some v) (hm : f + m ≤ limit + 1) (hl : limit ≤ 15) (hw : ∀ x ∈ l, x ≤ 1073741824) (hx : x ≤ 1073741824) (hn : l.length ≤ 100) : v ≤ 1700000000000 := by
  obtain ⟨k, h1, h2, h3⟩ := leaTo_sound h
  unfold leaCand at h3
  split at h3
  · obtain ⟨q, hq, rfl⟩ := Option.map_eq_some_iff.1 h3
    have := least_bd hq hl hw hn
    have h4 : k * x ≤ 15 * 1073741824 := Nat.mul_le_mul (by omega) hx
    omega
  · cases h3
/-- A slice that leads to what stands behind the first. -/
def tailV (b o m cap : Nat) : Value := if cap = 1 then .slice (some ⟨b, o, none⟩) 0 0 else .slice (some ⟨b, o + 1, none⟩) m (cap - 1)
theorem ints_tail {w : World} {b o x : Nat} {r : List Nat} {cap : Nat} (h : IntsIn w (some ⟨b, o, none⟩) (r.length + 1) (ints (x :: r))) (hc : r.length + 1 ≤ cap) : ∃ a2 c2, tailV b o r.length cap = .slice a2 r.length c2 ∧ r.length ≤ c2 ∧ IntsIn w a2 r.length (ints r) := by
  unfold tailV
  by_cases e : cap = 1
  · have hr : r = [] := List.eq_nil_of_length_eq_zero (by omega)
    subst hr
    rw [if_pos e]
    exact ⟨_, _, rfl, Nat.le_refl _, rfl, fun i hi => by simp [ints] at hi⟩
  · rw [if_neg e]
    refine ⟨_, _, rfl, by omega, by simp [ints], fun i hi => ?_⟩
    obtain ⟨b2, o2, e2, hc2, h1, h2⟩ := h.cell (i + 1) (by simp [ints] at hi ⊢; omega)
    cases e2
    exact ⟨b, o + 1, rfl, by rw [show o + 1 + i = o + (i + 1) by omega, hc2]; simp [ints], by simp [ints] <;> omega, by simpa [ints] using h2⟩
def LeaP2 (v : Int) (w : World) (e : Ending) (w' : World) : Prop := e = .returned (.int .i64 v) ∧ w = w'
def LeaAt (limit : Nat) (w : World) (l : List Nat) : Prop := ∀ (a : Option Addr) (cap f room : Nat), IntsIn w a l.length (ints l) → l.length ≤ cap → l.length ≤ 100 → (∀ x ∈ l, x ≤ 1073741824) → f ≤ limit → room ≤ 100000 →
    Calls Try.prog 53 #[.slice a l.length cap, .int .i64 (f : Nat), .int .i64 (limit : Nat), .int .i64 (room : Nat)] w fun e w' => LeaP2 (optI (leastP l f limit room)) w e w'
set_option maxRecDepth 100000 in
set_option maxHeartbeats 6400000 in
theorem least_nil (limit : Nat) (w : World) : LeaAt limit w [] := by
  intro a cap f room hI hc hn hw hf hr
  clear hI hw
  go_enter Try.func53, Try.ntmps53
  go_wp2
  go_ret
  exact ⟨rfl, rfl⟩
set_option maxRecDepth 100000 in
set_option maxHeartbeats 6400000 in
theorem least_cons (limit : Nat) (hl : limit ≤ 15) (w : World) (x : Nat) (r : List Nat) (ih : LeaAt limit w r) : LeaAt limit w (x :: r) := by
    intro a cap f room hI hc hn hw hf hr
    unfold LeaAt at ih
    rw [List.length_cons] at hI hc hn ⊢
    obtain ⟨b, o, rfl, hc0, _, _⟩ := hI.cell 0 (by simp [ints])
    obtain ⟨a2, c2, htv, hc2, hI2⟩ := ints_tail hI hc
    have hwr : ∀ y ∈ r, y ≤ 1073741824 := fun y hy => hw y (List.mem_cons_of_mem _ hy)
    have hx : x ≤ 1073741824 := hw x List.mem_cons_self
    have HIH : Hid (∀ k room2 : Nat, k ≤ limit → room2 ≤ 100000 → Calls Try.prog 53 #[.slice a2 r.length c2, .int .i64 (k : Nat), .int .i64 (limit : Nat), .int .i64 (room2 : Nat)] w fun e w' => LeaP2 (optI (leastP r k limit room2)) w e w') := Lib.hid (fun k room2 h1 h2 => ih a2 c2 k room2 hI2 hc2 (by omega) hwr h1 h2)
    have HBD := Lib.hid (fun k room2 v (h : leastP r k limit room2 = some v) => least_bd h hl hwr (by omega))
    have HBT := Lib.hid (fun m v (h : leaTo x r f limit room m = some v) (hm : f + m ≤ limit + 1) => leaTo_bd h hm hl hwr hx (by omega))
    have HTV := Lib.hid htv
    have hx0 : w.cell? ⟨b, o, none⟩ = some (.int .i64 (x : Nat)) := by rw [Nat.add_zero] at hc0; simpa [ints] using hc0
    obtain ⟨n, hn2⟩ : ∃ n, r.length = n := ⟨_, rfl⟩
    rw [hn2] at hc hn hc2 HIH HTV ⊢
    have HN := Lib.hid hn2
    clear ih hI hI2 hw hwr htv hc0 hn2
    go_enter Try.func53, Try.ntmps53
    have hn0 : ¬ ((n + 1 : Nat) : Int) = 0 := by omega
    go_wp2
    go_loopg [9, 10] 100 (fun gg s9 s10 wr => ∃ m : Nat, f + m ≤ limit + 1 ∧ gg = 100 - m ∧ s10 = .int .i64 ((f + m : Nat) : Int) ∧ s9 = .int .i64 (optI (leaTo x r f limit room m)) ∧ wr = w)
    case atStart => exact ⟨0, by omega, rfl, rfl, rfl, rfl⟩
    case round =>
      obtain ⟨m, hm, rfl, rfl, rfl, hwr⟩ := hrel
      subst hwr
      obtain ⟨k, hk⟩ : ∃ k, f + m = k := ⟨_, rfl⟩
      rw [hk] at hm ⊢
      have HK := Lib.hid hk
      have HST := Lib.hid (leaTo_succ x r f limit room m)
      rw [hk] at HST
      have HB0 : Hid (∀ v, leaTo x r f limit room m = some v → v ≤ 1700000000000) := Lib.hid (fun v h => HBT.out m v h (by omega))
      obtain ⟨B, hBQ⟩ : ∃ B, leaTo x r f limit room m = B := ⟨_, rfl⟩
      rw [hBQ] at HST HB0 ⊢
      have HBQ := Lib.hid hBQ
      clear hBQ
      by_cases hkl : k ≤ limit
      · have hklz : (k : Int) ≤ (limit : Int) := by omega
        go_wp2
        go_loopg [11, 12] 100 (fun gg s11 s12 wx => ∃ j : Nat, k + j ≤ limit ∧ gg = 100 - j ∧ s12 = .int .i64 ((k + j : Nat) : Int) ∧ s11 = .int .i64 ((2 ^ j : Nat) : Int) ∧ wx = wr)
        case atStart => exact ⟨0, by omega, rfl, rfl, rfl, rfl⟩
        case round =>
          obtain ⟨j, hj, rfl, rfl, rfl, hwr⟩ := hrel
          subst hwr
          have hpj : 2 ^ j ≤ 32768 := by
            have := Nat.pow_le_pow_right (n := 2) (by omega) (show j ≤ 15 by omega)
            omega
          have HPJ : Hid (2 ^ (j + 1) = 2 * 2 ^ j) := Lib.hid (by rw [Nat.pow_succ]; omega)
          by_cases hjl : k + j < limit
          · have hjz : ((k + j : Nat) : Int) < (limit : Int) := by omega
            have hw1 : IntKind.i64.wrap (((k + j : Nat) : Int) + 1) = ((k + (j + 1) : Nat) : Int) := by rw [IntWalk.i64_in _ (by omega)]; omega
            obtain ⟨U, hU⟩ : ∃ U, 2 ^ j = U := ⟨_, rfl⟩
            rw [hU] at hpj HPJ ⊢
            clear hU
            have hw2 : IntKind.i64.wrap (2 * (U : Int)) = ((2 * U : Nat) : Int) := by rw [IntWalk.i64_in _ (by omega)]; simp
            go_wp2
            go_roundg (100 - (j + 1))
            · exact ⟨j + 1, by omega, rfl, by first | rfl | go_num, by rw [HPJ.out]; first | rfl | go_num, rfl⟩
            · omega
          · have hjz : ¬ ((k + j : Nat) : Int) < (limit : Int) := by omega
            obtain rfl : j = limit - k := by omega
            obtain ⟨U, hU⟩ : ∃ U, 2 ^ (limit - k) = U := ⟨_, rfl⟩
            rw [hU] at hpj ⊢
            have HCD : Hid (leaCand x r limit room k = if !((decide (room < U * (n + 1)) && decide (k = limit)) || decide (room < U)) then (leastP r k limit (room - U)).map (· + k * x) else none) := Lib.hid (by unfold leaCand leaRoom; rw [hU, HN.out])
            clear hU HPJ
            obtain ⟨M, hM⟩ : ∃ M, U * (n + 1) = M := ⟨_, rfl⟩
            have hMb : M ≤ 3276800 := by rw [← hM]; exact Nat.mul_le_mul hpj hn
            have hMz : (U : Int) * ((n + 1 : Nat) : Int) = (M : Int) := by rw [← hM]; simp
            rw [hM] at HCD
            clear hM
            have hwM : IntKind.i64.wrap (M : Int) = (M : Int) := IntWalk.i64_in _ (by omega)
            have hw1 : IntKind.i64.wrap ((k : Int) + 1) = ((k + 1 : Nat) : Int) := by rw [IntWalk.i64_in _ (by omega)]; rfl
            have HKK : Hid (f + (m + 1) = k + 1) := Lib.hid (by have := HK.out; omega)
            have hMw : wrap64 ((U : Int) * ((n : Int) + 1)) = (M : Int) := by
              have h1 : ((n + 1 : Nat) : Int) = (n : Int) + 1 := by omega
              rw [← h1, hMz]
              clear hMz h1 hw1 hjz hj hm hpj
              unfold wrap64
              omega
            clear hMz hMb hwM
            by_cases hB : room < U
            · have hBz : (room : Int) < (U : Int) := by omega
              have HSK : Hid (leaTo x r f limit room (m + 1) = B) := Lib.hid (by rw [HST.out, HCD.out, if_neg (by simp [hB])]; cases B <;> rfl)
              by_cases hA : room < M
              · have hAz : (room : Int) < (M : Int) := Int.ofNat_lt.2 hA
                by_cases hkL : k = limit
                · subst hkL
                  go_wp2
                  go_roundg (100 - (m + 1))
                  · exact ⟨m + 1, by have := HK.out; omega, rfl, by rw [HKK.out]; first | rfl | go_num, by rw [HSK.out], rfl⟩
                  · omega
                · have hkLz : ¬ (k : Int) = (limit : Int) := by omega
                  go_wp2
                  go_roundg (100 - (m + 1))
                  · exact ⟨m + 1, by have := HK.out; omega, rfl, by rw [HKK.out]; first | rfl | go_num, by rw [HSK.out], rfl⟩
                  · omega
              · have hAz : ¬ (room : Int) < (M : Int) := fun q => hA (Int.ofNat_lt.1 q)
                go_wp2
                go_roundg (100 - (m + 1))
                · exact ⟨m + 1, by have := HK.out; omega, rfl, by rw [HKK.out]; first | rfl | go_num, by rw [HSK.out], rfl⟩
                · omega
            · have hBz : ¬ (room : Int) < (U : Int) := by omega
              by_cases hA : room < M
              · have hAz : (room : Int) < (M : Int) := Int.ofNat_lt.2 hA
                by_cases hkL : k = limit
                · have HSK : Hid (leaTo x r f limit room (m + 1) = B) := Lib.hid (by rw [HST.out, HCD.out, if_neg (by simp [hA, hkL])]; cases B <;> rfl)
                  subst hkL
                  go_wp2
                  go_roundg (100 - (m + 1))
                  · exact ⟨m + 1, by have := HK.out; omega, rfl, by rw [HKK.out]; first | rfl | go_num, by rw [HSK.out], rfl⟩
                  · omega
                · have hkLz : ¬ (k : Int) = (limit : Int) := by omega
                  rw [if_pos (by simp [hB, hkL])] at HCD
                  have hRU : (room : Int) - (U : Int) = ((room - U : Nat) : Int) := (Int.ofNat_sub (Nat.le_of_not_lt hB)).symm
                  have htv := HTV.out
                  unfold tailV at htv
                  by_cases hcap : cap = 1
                  · subst hcap
                    obtain rfl : n = 0 := by omega
                    rw [if_pos rfl] at htv
                    cases htv
                    go_wp2_with fail
                    refine (HIH.out k (room - U) hkl (Nat.le_trans (Nat.sub_le _ _) hr)).mono ?_
                    rintro e w7 ⟨rfl, rfl⟩
                    cases hR : leastP r k limit (room - U) with
                    | none =>
                      have HSK : Hid (leaTo x r f limit room (m + 1) = B) := Lib.hid (by rw [HST.out, HCD.out, hR]; cases B <;> rfl)
                      clear hR
                      rw [optI_none]
                      go_wp2
                      go_roundg (100 - (m + 1))
                      · exact ⟨m + 1, by have := HK.out; omega, rfl, by rw [HKK.out]; first | rfl | go_num, by rw [HSK.out], rfl⟩
                      · omega
                    | some v =>
                      have hv := HBD.out k (room - U) v hR
                      obtain ⟨y, hy⟩ : ∃ y, k * x = y := ⟨_, rfl⟩
                      have h15 := Nat.mul_le_mul (show k ≤ 15 by omega) hx
                      have hyb : y ≤ 16106127360 := by rw [← hy]; omega
                      clear h15
                      have hyz : (k : Int) * (x : Int) = (y : Int) := by rw [← hy]; simp
                      have hvy0 : ((v : Int) + (y : Int)) = ((v + y : Nat) : Int) := (Int.natCast_add v y).symm
                      have hyw : IntKind.i64.wrap ((k : Int) * (x : Int)) = (y : Int) := by rw [hyz]; exact IntWalk.i64_in _ (by omega)
                      have hva : IntKind.i64.wrap ((v : Int) + (y : Int)) = ((v + y : Nat) : Int) := by rw [hvy0]; exact IntWalk.i64_in _ (by omega)
                      have hvy : ((v : Int) + (y : Int)) = ((v + y : Nat) : Int) := (Int.natCast_add v y).symm
                      have HCV : Hid (leaCand x r limit room k = some (v + y)) := Lib.hid (by rw [HCD.out, hR, ← hy]; rfl)
                      clear hR hy hyz hvy0 hvy
                      rw [optI_some]
                      cases hBB : B with
                      | none =>
                        have HSK : Hid (leaTo x r f limit room (m + 1) = some (v + y)) := Lib.hid (by rw [HST.out, HCV.out, hBB]; rfl)
                        subst hBB
                        rw [optI_none]
                        go_wp2
                        go_roundg (100 - (m + 1))
                        · exact ⟨m + 1, by have := HK.out; omega, rfl, by rw [HKK.out]; first | rfl | go_num, by rw [HSK.out]; first | rfl | (rw [optI_some]; done) | go_num, rfl⟩
                        · omega
                      | some bb =>
                        have hbb := HB0.out bb hBB
                        by_cases hlt : v + y < bb
                        · have hltz : ((v + y : Nat) : Int) < (bb : Int) := Int.ofNat_lt.2 hlt
                          have HSK : Hid (leaTo x r f limit room (m + 1) = some (v + y)) := Lib.hid (by rw [HST.out, HCV.out, hBB]; unfold better; simp [hlt])
                          subst hBB
                          rw [optI_some]
                          go_wp2
                          go_roundg (100 - (m + 1))
                          · exact ⟨m + 1, by have := HK.out; omega, rfl, by rw [HKK.out]; first | rfl | go_num, by rw [HSK.out]; first | rfl | (rw [optI_some]; done) | go_num, rfl⟩
                          · omega
                        · have hltz : ¬ ((v + y : Nat) : Int) < (bb : Int) := fun q => hlt (Int.ofNat_lt.1 q)
                          have HSK : Hid (leaTo x r f limit room (m + 1) = some bb) := Lib.hid (by rw [HST.out, HCV.out, hBB]; unfold better; simp [hlt])
                          subst hBB
                          rw [optI_some]
                          go_wp2
                          go_roundg (100 - (m + 1))
                          · exact ⟨m + 1, by have := HK.out; omega, rfl, by rw [HKK.out]; first | rfl | go_num, by rw [HSK.out]; first | rfl | (rw [optI_some]; done) | go_num, rfl⟩
                          · omega
                  · rw [if_neg hcap] at htv
                    cases htv
                    have hcz1 : (1 : Int) ≤ (cap : Int) := by omega
                    have hcz2 : ((n : Int) + 1) ≤ (cap : Int) := by omega
                    go_wp2_with fail
                    refine (HIH.out k (room - U) hkl (Nat.le_trans (Nat.sub_le _ _) hr)).mono ?_
                    rintro e w7 ⟨rfl, rfl⟩
                    cases hR : leastP r k limit (room - U) with
                    | none =>
                      have HSK : Hid (leaTo x r f limit room (m + 1) = B) := Lib.hid (by rw [HST.out, HCD.out, hR]; cases B <;> rfl)
                      clear hR
                      rw [optI_none]
                      go_wp2
                      go_roundg (100 - (m + 1))
                      · exact ⟨m + 1, by have := HK.out; omega, rfl, by rw [HKK.out]; first | rfl | go_num, by rw [HSK.out], rfl⟩
                      · omega
                    | some v =>
                      have hv := HBD.out k (room - U) v hR
                      obtain ⟨y, hy⟩ : ∃ y, k * x = y := ⟨_, rfl⟩
                      have h15 := Nat.mul_le_mul (show k ≤ 15 by omega) hx
                      have hyb : y ≤ 16106127360 := by rw [← hy]; omega
                      clear h15
                      have hyz : (k : Int) * (x : Int) = (y : Int) := by rw [← hy]; simp
                      have hvy0 : ((v : Int) + (y : Int)) = ((v + y : Nat) : Int) := (Int.natCast_add v y).symm
                      have hyw : IntKind.i64.wrap ((k : Int) * (x : Int)) = (y : Int) := by rw [hyz]; exact IntWalk.i64_in _ (by omega)
                      have hva : IntKind.i64.wrap ((v : Int) + (y : Int)) = ((v + y : Nat) : Int) := by rw [hvy0]; exact IntWalk.i64_in _ (by omega)
                      have hvy : ((v : Int) + (y : Int)) = ((v + y : Nat) : Int) := (Int.natCast_add v y).symm
                      have HCV : Hid (leaCand x r limit room k = some (v + y)) := Lib.hid (by rw [HCD.out, hR, ← hy]; rfl)
                      clear hR hy hyz hvy0 hvy
                      rw [optI_some]
                      cases hBB : B with
                      | none =>
                        have HSK : Hid (leaTo x r f limit room (m + 1) = some (v + y)) := Lib.hid (by rw [HST.out, HCV.out, hBB]; rfl)
                        subst hBB
                        rw [optI_none]
                        go_wp2
                        go_roundg (100 - (m + 1))
                        · exact ⟨m + 1, by have := HK.out; omega, rfl, by rw [HKK.out]; first | rfl | go_num, by rw [HSK.out]; first | rfl | (rw [optI_some]; done) | go_num, rfl⟩
                        · omega
                      | some bb =>
                        have hbb := HB0.out bb hBB
                        by_cases hlt : v + y < bb
                        · have hltz : ((v + y : Nat) : Int) < (bb : Int) := Int.ofNat_lt.2 hlt
                          have HSK : Hid (leaTo x r f limit room (m + 1) = some (v + y)) := Lib.hid (by rw [HST.out, HCV.out, hBB]; unfold better; simp [hlt])
                          subst hBB
                          rw [optI_some]
                          go_wp2
                          go_roundg (100 - (m + 1))
                          · exact ⟨m + 1, by have := HK.out; omega, rfl, by rw [HKK.out]; first | rfl | go_num, by rw [HSK.out]; first | rfl | (rw [optI_some]; done) | go_num, rfl⟩
                          · omega
                        · have hltz : ¬ ((v + y : Nat) : Int) < (bb : Int) := fun q => hlt (Int.ofNat_lt.1 q)
                          have HSK : Hid (leaTo x r f limit room (m + 1) = some bb) := Lib.hid (by rw [HST.out, HCV.out, hBB]; unfold better; simp [hlt])
                          subst hBB
                          rw [optI_some]
                          go_wp2
                          go_roundg (100 - (m + 1))
                          · exact ⟨m + 1, by have := HK.out; omega, rfl, by rw [HKK.out]; first | rfl | go_num, by rw [HSK.out]; first | rfl | (rw [optI_some]; done) | go_num, rfl⟩
                          · omega
              · have hAz : ¬ (room : Int) < (M : Int) := fun q => hA (Int.ofNat_lt.1 q)
                rw [if_pos (by simp [hB, hA])] at HCD
                have hRU : (room : Int) - (U : Int) = ((room - U : Nat) : Int) := (Int.ofNat_sub (Nat.le_of_not_lt hB)).symm
                have htv := HTV.out
                unfold tailV at htv
                by_cases hcap : cap = 1
                · subst hcap
                  obtain rfl : n = 0 := by omega
                  rw [if_pos rfl] at htv
                  cases htv
                  go_wp2_with fail
                  refine (HIH.out k (room - U) hkl (Nat.le_trans (Nat.sub_le _ _) hr)).mono ?_
                  rintro e w7 ⟨rfl, rfl⟩
                  cases hR : leastP r k limit (room - U) with
                  | none =>
                    have HSK : Hid (leaTo x r f limit room (m + 1) = B) := Lib.hid (by rw [HST.out, HCD.out, hR]; cases B <;> rfl)
                    clear hR
                    rw [optI_none]
                    go_wp2
                    go_roundg (100 - (m + 1))
                    · exact ⟨m + 1, by have := HK.out; omega, rfl, by rw [HKK.out]; first | rfl | go_num, by rw [HSK.out], rfl⟩
                    · omega
                  | some v =>
                    have hv := HBD.out k (room - U) v hR
                    obtain ⟨y, hy⟩ : ∃ y, k * x = y := ⟨_, rfl⟩
                    have h15 := Nat.mul_le_mul (show k ≤ 15 by omega) hx
                    have hyb : y ≤ 16106127360 := by rw [← hy]; omega
                    clear h15
                    have hyz : (k : Int) * (x : Int) = (y : Int) := by rw [← hy]; simp
                    have hvy0 : ((v : Int) + (y : Int)) = ((v + y : Nat) : Int) := (Int.natCast_add v y).symm
                    have hyw : IntKind.i64.wrap ((k : Int) * (x : Int)) = (y : Int) := by rw [hyz]; exact IntWalk.i64_in _ (by omega)
                    have hva : IntKind.i64.wrap ((v : Int) + (y : Int)) = ((v + y : Nat) : Int) := by rw [hvy0]; exact IntWalk.i64_in _ (by omega)
                    have hvy : ((v : Int) + (y : Int)) = ((v + y : Nat) : Int) := (Int.natCast_add v y).symm
                    have HCV : Hid (leaCand x r limit room k = some (v + y)) := Lib.hid (by rw [HCD.out, hR, ← hy]; rfl)
                    clear hR hy hyz hvy0 hvy
                    rw [optI_some]
                    cases hBB : B with
                    | none =>
                      have HSK : Hid (leaTo x r f limit room (m + 1) = some (v + y)) := Lib.hid (by rw [HST.out, HCV.out, hBB]; rfl)
                      subst hBB
                      rw [optI_none]
                      go_wp2
                      go_roundg (100 - (m + 1))
                      · exact ⟨m + 1, by have := HK.out; omega, rfl, by rw [HKK.out]; first | rfl | go_num, by rw [HSK.out]; first | rfl | (rw [optI_some]; done) | go_num, rfl⟩
                      · omega
                    | some bb =>
                      have hbb := HB0.out bb hBB
                      by_cases hlt : v + y < bb
                      · have hltz : ((v + y : Nat) : Int) < (bb : Int) := Int.ofNat_lt.2 hlt
                        have HSK : Hid (leaTo x r f limit room (m + 1) = some (v + y)) := Lib.hid (by rw [HST.out, HCV.out, hBB]; unfold better; simp [hlt])
                        subst hBB
                        rw [optI_some]
                        go_wp2
                        go_roundg (100 - (m + 1))
                        · exact ⟨m + 1, by have := HK.out; omega, rfl, by rw [HKK.out]; first | rfl | go_num, by rw [HSK.out]; first | rfl | (rw [optI_some]; done) | go_num, rfl⟩
                        · omega
                      · have hltz : ¬ ((v + y : Nat) : Int) < (bb : Int) := fun q => hlt (Int.ofNat_lt.1 q)
                        have HSK : Hid (leaTo x r f limit room (m + 1) = some bb) := Lib.hid (by rw [HST.out, HCV.out, hBB]; unfold better; simp [hlt])
                        subst hBB
                        rw [optI_some]
                        go_wp2
                        go_roundg (100 - (m + 1))
                        · exact ⟨m + 1, by have := HK.out; omega, rfl, by rw [HKK.out]; first | rfl | go_num, by rw [HSK.out]; first | rfl | (rw [optI_some]; done) | go_num, rfl⟩
                        · omega
                · rw [if_neg hcap] at htv
                  cases htv
                  have hcz1 : (1 : Int) ≤ (cap : Int) := by omega
                  have hcz2 : ((n : Int) + 1) ≤ (cap : Int) := by omega
                  go_wp2_with fail
                  refine (HIH.out k (room - U) hkl (Nat.le_trans (Nat.sub_le _ _) hr)).mono ?_
                  rintro e w7 ⟨rfl, rfl⟩
                  cases hR : leastP r k limit (room - U) with
                  | none =>
                    have HSK : Hid (leaTo x r f limit room (m + 1) = B) := Lib.hid (by rw [HST.out, HCD.out, hR]; cases B <;> rfl)
                    clear hR
                    rw [optI_none]
                    go_wp2
                    go_roundg (100 - (m + 1))
                    · exact ⟨m + 1, by have := HK.out; omega, rfl, by rw [HKK.out]; first | rfl | go_num, by rw [HSK.out], rfl⟩
                    · omega
                  | some v =>
                    have hv := HBD.out k (room - U) v hR
                    obtain ⟨y, hy⟩ : ∃ y, k * x = y := ⟨_, rfl⟩
                    have h15 := Nat.mul_le_mul (show k ≤ 15 by omega) hx
                    have hyb : y ≤ 16106127360 := by rw [← hy]; omega
                    clear h15
                    have hyz : (k : Int) * (x : Int) = (y : Int) := by rw [← hy]; simp
                    have hvy0 : ((v : Int) + (y : Int)) = ((v + y : Nat) : Int) := (Int.natCast_add v y).symm
                    have hyw : IntKind.i64.wrap ((k : Int) * (x : Int)) = (y : Int) := by rw [hyz]; exact IntWalk.i64_in _ (by omega)
                    have hva : IntKind.i64.wrap ((v : Int) + (y : Int)) = ((v + y : Nat) : Int) := by rw [hvy0]; exact IntWalk.i64_in _ (by omega)
                    have hvy : ((v : Int) + (y : Int)) = ((v + y : Nat) : Int) := (Int.natCast_add v y).symm
                    have HCV : Hid (leaCand x r limit room k = some (v + y)) := Lib.hid (by rw [HCD.out, hR, ← hy]; rfl)
                    clear hR hy hyz hvy0 hvy
                    rw [optI_some]
                    cases hBB : B with
                    | none =>
                      have HSK : Hid (leaTo x r f limit room (m + 1) = some (v + y)) := Lib.hid (by rw [HST.out, HCV.out, hBB]; rfl)
                      subst hBB
                      rw [optI_none]
                      go_wp2
                      go_roundg (100 - (m + 1))
                      · exact ⟨m + 1, by have := HK.out; omega, rfl, by rw [HKK.out]; first | rfl | go_num, by rw [HSK.out]; first | rfl | (rw [optI_some]; done) | go_num, rfl⟩
                      · omega
                    | some bb =>
                      have hbb := HB0.out bb hBB
                      by_cases hlt : v + y < bb
                      · have hltz : ((v + y : Nat) : Int) < (bb : Int) := Int.ofNat_lt.2 hlt
                        have HSK : Hid (leaTo x r f limit room (m + 1) = some (v + y)) := Lib.hid (by rw [HST.out, HCV.out, hBB]; unfold better; simp [hlt])
                        subst hBB
                        rw [optI_some]
                        go_wp2
                        go_roundg (100 - (m + 1))
                        · exact ⟨m + 1, by have := HK.out; omega, rfl, by rw [HKK.out]; first | rfl | go_num, by rw [HSK.out]; first | rfl | (rw [optI_some]; done) | go_num, rfl⟩
                        · omega
                      · have hltz : ¬ ((v + y : Nat) : Int) < (bb : Int) := fun q => hlt (Int.ofNat_lt.1 q)
                        have HSK : Hid (leaTo x r f limit room (m + 1) = some bb) := Lib.hid (by rw [HST.out, HCV.out, hBB]; unfold better; simp [hlt])
                        subst hBB
                        rw [optI_some]
                        go_wp2
                        go_roundg (100 - (m + 1))
                        · exact ⟨m + 1, by have := HK.out; omega, rfl, by rw [HKK.out]; first | rfl | go_num, by rw [HSK.out]; first | rfl | (rw [optI_some]; done) | go_num, rfl⟩
                        · omega
      · have hklz : ¬ (k : Int) ≤ (limit : Int) := by omega
        have HME : Hid (m = limit + 1 - f) := Lib.hid (by have := HK.out; omega)
        go_wp2
        go_ret
        exact ⟨by rw [leastP_cons, ← HME.out, HBQ.out]; rfl, rfl⟩
theorem least_any (limit : Nat) (hl : limit ≤ 15) (w : World) (l : List Nat) : LeaAt limit w l := by
  induction l with
  | nil => exact least_nil limit w
  | cons x r ih => exact least_cons limit hl w x r ih
end Go.Proofs.Ytdehkaknbmbieaa
