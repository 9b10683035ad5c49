/- Package script: may, for any event: its walk. -/
import Derived.Test.YtigjingielnaoaaDoorQAW
namespace Go.Proofs.YtigjingielnaoaaDoor
set_option linter.unusedVariables false
set_option linter.unusedSimpArgs false
set_option linter.unusedSectionVars false
open Go.RowKit
set_option linter.unusedVariables false
set_option linter.unusedSimpArgs false

theorem spolicy_any (n : Int) (w : World) : Calls Tryd.prog 104 #[.int .i64 n] w fun e w' => e = .returned (.bool (decide (0 ≤ n ∧ n ≤ 3))) ∧ w' = w := by
  by_cases h1 : 0 ≤ n
  · by_cases h2 : n ≤ 3
    · have HV : Hid (decide (0 ≤ n ∧ n ≤ 3) = true) := Lib.hid (decide_eq_true ⟨h1, h2⟩)
      rw [HV.out]
      go_enter Tryd.func104, Tryd.ntmps104
      go_wp2
      go_ret
      exact ⟨rfl, rfl⟩
    · have HV : Hid (decide (0 ≤ n ∧ n ≤ 3) = false) := Lib.hid (decide_eq_false (fun h => h2 h.2))
      rw [HV.out]
      go_enter Tryd.func104, Tryd.ntmps104
      go_wp2
      go_ret
      exact ⟨rfl, rfl⟩
  · have HV : Hid (decide (0 ≤ n ∧ n ≤ 3) = false) := Lib.hid (decide_eq_false (fun h => h1 h.1))
    rw [HV.out]
    go_enter Tryd.func104, Tryd.ntmps104
    go_wp2
    go_ret
    exact ⟨rfl, rfl⟩
def oddN (n : Int) : Bool := decide (n < 0 ∨ 1000 < n)
theorem may1_any (n : Int) (w : World) : Calls Tryd.prog 120 #[.int .i64 n] w fun e w' => e = .returned (.bool (oddN n)) ∧ Upd [] w w' := by
  by_cases h1 : n < 0
  · have HV : Hid (oddN n = true) := Lib.hid (decide_eq_true (.inl h1))
    rw [HV.out]
    go_enter Tryd.func120, Tryd.ntmps120
    go_wp2
    go_ret
    exact ⟨rfl, Upd.refl _ _⟩
  · by_cases h2 : 1000 < n
    · have HV : Hid (oddN n = true) := Lib.hid (decide_eq_true (.inr h2))
      rw [HV.out]
      go_enter Tryd.func120, Tryd.ntmps120
      go_wp2
      go_ret
      exact ⟨rfl, Upd.refl _ _⟩
    · have HV : Hid (oddN n = false) := Lib.hid (decide_eq_false (by omega))
      rw [HV.out]
      go_enter Tryd.func120, Tryd.ntmps120
      go_wp2
      go_ret
      exact ⟨rfl, Upd.refl _ _⟩
/-- The first number's place that is so; -1: there is none. -/
def idxZ (pr : Int → Bool) (l : List Int) : Int := if l.findIdx pr < l.length then (l.findIdx pr : Nat) else -1
theorem idxZ_yes {pr : Int → Bool} {l : List Int} (i : Nat) (hi : i < l.length) (h : pr l[i] = true) (hn : ∀ j, (hj : j < l.length) → j < i → pr l[j] = false) : idxZ pr l = (i : Nat) := by
  have e : l.findIdx pr = i := by
    rw [List.findIdx_eq hi]
    exact ⟨h, fun j hj => by simpa using hn j (by omega) hj⟩
  unfold idxZ
  rw [e, if_pos hi]
theorem idxZ_no {pr : Int → Bool} {l : List Int} (hn : ∀ j, (hj : j < l.length) → pr l[j] = false) : idxZ pr l = -1 := by
  have e : ¬ l.findIdx pr < l.length := by
    rw [List.findIdx_lt_length]
    rintro ⟨x, hx, h⟩
    obtain ⟨j, hj, rfl⟩ := List.mem_iff_getElem.1 hx
    rw [hn j hj] at h
    cases h
  unfold idxZ
  rw [if_neg e]
theorem idxZ_any (pr : Int → Bool) (l : List Int) : decide (0 ≤ idxZ pr l) = l.any pr := by
  unfold idxZ
  by_cases h : l.findIdx pr < l.length
  · rw [if_pos h, decide_eq_true (by omega)]
    rw [List.findIdx_lt_length] at h
    exact (List.any_eq_true.2 h).symm
  · rw [if_neg h, decide_eq_false (by omega)]
    rw [List.findIdx_lt_length] at h
    symm
    rw [Bool.eq_false_iff]
    intro h2
    exact h (List.any_eq_true.1 h2)
set_option maxRecDepth 100000 in
set_option maxHeartbeats 3200000 in
theorem indexM_any (l : List Int) (v : Value) (w : World) (pr : Int → Bool) (hv : IntsAt w v l) (hl : l.length ≤ 9223372036854775807) (HF : ∀ n w1, Upd [] w w1 → Calls Tryd.prog 120 #[.int .i64 n] w1 fun e w' => e = .returned (.bool (pr n)) ∧ Upd [] w1 w') :
    Calls Tryd.prog 86 #[v, .func (.func 120) #[] #[]] w fun e w' => e = .returned (.int .i64 (idxZ pr l)) ∧ Upd [] w w' := by
  obtain ⟨a1, cap1, rfl, hcap1, hc1⟩ := hv
  have HC1 := Lib.hid hc1
  have HFF := Lib.hid HF
  have HY := Lib.hid (@idxZ_yes pr l)
  have HNO := Lib.hid (@idxZ_no pr l)
  obtain ⟨n, hn⟩ : ∃ n, l.length = n := ⟨_, rfl⟩
  have HN1 := Lib.hid hn
  rw [hn] at hcap1 hl ⊢
  clear hc1 hn HF
  go_enter Tryd.func86, Tryd.ntmps86
  go_wp2
  go_loopg [8] n (fun gg s8 wr => ∃ i, i ≤ n ∧ gg = n - i ∧ s8 = .int .i64 (i : Nat) ∧ Hid (∀ j, (hj : j < l.length) → j < i → pr l[j] = false) ∧ Hid (Upd [] w wr))
  case atStart => exact ⟨0, Nat.zero_le _, rfl, rfl, Lib.hid (fun j _ h => by omega), Lib.hid (Upd.refl _ _)⟩
  case round =>
    obtain ⟨i, hin, rfl, rfl, HT, HU⟩ := hrel
    by_cases hc : i < n
    · have hcz : (i : Int) < (n : Int) := by omega
      have hi1 : i < l.length := by rw [HN1.out]; exact hc
      obtain ⟨b1, o1, rfl, d1⟩ := HC1.out i hi1
      have c1 := HU.out.keepS d1
      have HX := Lib.hid (fun z (hz : Upd [] wr z) => HFF.out l[i] z (HU.out.then hz))
      have HYI := Lib.hid (fun h => HY.out i hi1 h HT.out)
      have HTI : Hid (pr l[i] = false → ∀ j, (hj : j < l.length) → j < i + 1 → pr l[j] = false) := Lib.hid (fun h j hj hlt => by
        rcases Nat.lt_or_ge j i with hji | hji
        · exact HT.out j hj hji
        · have : j = i := by omega
          subst this; exact h)
      have hw1 : IntKind.i64.wrap ((i : Int) + 1) = ((i + 1 : Nat) : Int) := by rw [IntWalk.i64_in _ (by omega)]; rfl
      generalize l[i] = x at *
      obtain ⟨B, hB⟩ : ∃ B, pr x = B := ⟨_, rfl⟩
      rw [hB] at HX HYI HTI
      clear hB d1
      cases B with
      | true =>
        have HV := Lib.hid (HYI.out rfl)
        clear HYI HTI
        go_wp2_with fail
        refine (HX.out _ (Upd.refl _ _)).mono ?_
        rintro e w2 ⟨rfl, hu2⟩
        go_wp2
        go_ret
        exact ⟨by rw [HV.out]; rfl, HU.out.then hu2⟩
      | false =>
        have HT2 := Lib.hid (HTI.out rfl)
        clear HYI HTI
        go_wp2_with fail
        refine (HX.out _ (Upd.refl _ _)).mono ?_
        rintro e w2 ⟨rfl, hu2⟩
        have HU2 := Lib.hid (HU.out.then hu2)
        clear hu2
        go_wp2
        go_roundg (n - (i + 1))
        · exact ⟨i + 1, by omega, rfl, by first | rfl | go_num, HT2, HU2⟩
        · omega
    · have hcz : ¬ (i : Int) < (n : Int) := by omega
      obtain rfl : i = n := by omega
      have HV := Lib.hid (HNO.out (fun j hj => HT.out j hj (by rw [← HN1.out]; exact hj)))
      go_wp2
      go_ret
      exact ⟨by rw [HV.out]; rfl, HU.out⟩
theorem containsM_any (l : List Int) (v : Value) (w : World) (hv : IntsAt w v l) (hl : l.length ≤ 9223372036854775807) :
    Calls Tryd.prog 121 #[v, .func (.func 120) #[] #[]] w fun e w' => e = .returned (.bool (l.any oddN)) ∧ Upd [] w w' := by
  have HI := Lib.hid (indexM_any l v w oddN hv hl (fun n w1 _ => may1_any n w1))
  rw [← idxZ_any]
  generalize idxZ oddN l = z at *
  clear hl hv
  go_enter Tryd.func121, Tryd.ntmps121
  go_wp2_with fail
  refine HI.out.mono ?_
  rintro e w2 ⟨rfl, hu2⟩
  go_wp2
  go_ret
  exact ⟨rfl, hu2⟩
theorem any_odd (l : List Int) : (!l.any oddN) = decide (∀ x ∈ l, 0 ≤ x ∧ x ≤ 1000) := by
  rw [Bool.eq_iff_iff]
  simp only [Bool.not_eq_true', decide_eq_true_eq, List.any_eq_false]
  constructor
  · intro h x hx
    have := h x hx
    unfold oddN at this
    simp at this
    omega
  · intro h x hx
    have := h x hx
    unfold oddN
    simp
    omega
set_option maxRecDepth 100000 in
set_option maxHeartbeats 6400000 in
theorem smay_any (e : EvN) (w : World) (hv : IntsAt w e.v e.l) (hl : e.l.length ≤ 9223372036854775807) (ht : e.t < 4294967296) (hp : e.p.size ≤ 9223372036854775807) (hq : e.q.size ≤ 9223372036854775807) (hD : e.D.size ≤ 9223372036854775807) :
    Calls Tryd.prog 102 #[e.val] w fun r w' => r = .returned (.bool (mayE e)) ∧ Upd [] w w' := by
  obtain ⟨op, p, q, k, m, t, D, n, v, l⟩ := e
  dsimp only at hv hl ht hp hq hD
  have HNP := Lib.hid (fun w => nameRight_any p w hp)
  have HNQ := Lib.hid (fun w => nameRight_any q w hq)
  have HND := Lib.hid (fun w => nodeRight_any k m t D w ht hD)
  have HVL := Lib.hid hv
  have hll := hl
  clear hv hp hq hD ht
  unfold nodeV at HND
  have hcase : op = 1 ∨ op = 4 ∨ op = 2 ∨ op = 3 ∨ op = 5 ∨ op = 11 ∨ op = 12 ∨ op = 13 ∨ op = 14 ∨ (op ≠ 1 ∧ op ≠ 4 ∧ op ≠ 2 ∧ op ≠ 3 ∧ op ≠ 5 ∧ op ≠ 11 ∧ op ≠ 12 ∧ op ≠ 13 ∧ op ≠ 14) := by omega
  rcases hcase with rfl | rfl | rfl | rfl | rfl | rfl | rfl | rfl | rfl | ⟨h1, h4, h2, h3, h5, h11, h12, h13, h14⟩
  · have HV0 : Hid (mayE ⟨1, p, q, k, m, t, D, n, v, l⟩ = (rightP (bytesOf p) && decide (nodeErr k m t D = 0) && decide (k ≠ 0))) := Lib.hid rfl
    generalize rightP (bytesOf p) = bp at *
    generalize nodeErr k m t D = ne at *
    cases bp
    · have HV : Hid (mayE ⟨1, p, q, k, m, t, D, n, v, l⟩ = false) := Lib.hid (by rw [HV0.out]; rfl)
      have HB0 := Lib.hid (Blk.new w [.int .i64 1, .string p, .string q, .int .i64 k, .int .i64 m, .int .u32 (t : Nat), .string D, .int .i64 n, v] 44)
      have HU0 := Lib.hid ((Upd.refl [] w).alloc (.cells #[.int .i64 1, .string p, .string q, .int .i64 k, .int .i64 m, .int .u32 (t : Nat), .string D, .int .i64 n, v] 44))
      unfold EvN.val EvN.cells
      dsimp only
      go_enter Tryd.func102, Tryd.ntmps102
      go_upto_region 1 with fail
      change Code.wp _ _ _ _ (w.alloc (.cells #[.int .i64 1, .string p, .string q, .int .i64 k, .int .i64 m, .int .u32 (t : Nat), .string D, .int .i64 n, v] 44))
      generalize w.alloc (.cells #[.int .i64 1, .string p, .string q, .int .i64 k, .int .i64 m, .int .u32 (t : Nat), .string D, .int .i64 n, v] 44) = w0 at *
      generalize w.heap.size = q0 at *
      have c0 := HB0.out.cell 0 rfl
      have c1 := HB0.out.cell 1 rfl
      have c2 := HB0.out.cell 2 rfl
      have c3 := HB0.out.cell 3 rfl
      have c4 := HB0.out.cell 4 rfl
      have c5 := HB0.out.cell 5 rfl
      have c6 := HB0.out.cell 6 rfl
      have c7 := HB0.out.cell 7 rfl
      have c8 := HB0.out.cell 8 rfl
      go_wp2_with fail
      refine (HNP.out _).mono ?_
      rintro e z1 ⟨rfl, hz1⟩
      have HB1 := Lib.hid (HB0.out.upd hz1 (by simp))
      have HU1 := Lib.hid (HU0.out.then hz1)
      clear hz1 c0 c1 c2 c3 c4 c5 c6 c7 c8
      have c0 := HB1.out.cell 0 rfl
      have c1 := HB1.out.cell 1 rfl
      have c2 := HB1.out.cell 2 rfl
      have c3 := HB1.out.cell 3 rfl
      have c4 := HB1.out.cell 4 rfl
      have c5 := HB1.out.cell 5 rfl
      have c6 := HB1.out.cell 6 rfl
      have c7 := HB1.out.cell 7 rfl
      have c8 := HB1.out.cell 8 rfl
      go_wp2
      go_ret
      exact ⟨by rw [HV.out]; rfl, HU1.out⟩
    · by_cases hne : ne = 0
      · subst hne
        by_cases hk : k = 0
        · subst hk
          have HV : Hid (mayE ⟨1, p, q, 0, m, t, D, n, v, l⟩ = false) := Lib.hid (by rw [HV0.out]; rfl)
          have HB0 := Lib.hid (Blk.new w [.int .i64 1, .string p, .string q, .int .i64 0, .int .i64 m, .int .u32 (t : Nat), .string D, .int .i64 n, v] 44)
          have HU0 := Lib.hid ((Upd.refl [] w).alloc (.cells #[.int .i64 1, .string p, .string q, .int .i64 0, .int .i64 m, .int .u32 (t : Nat), .string D, .int .i64 n, v] 44))
          unfold EvN.val EvN.cells
          dsimp only
          go_enter Tryd.func102, Tryd.ntmps102
          go_upto_region 1 with fail
          change Code.wp _ _ _ _ (w.alloc (.cells #[.int .i64 1, .string p, .string q, .int .i64 0, .int .i64 m, .int .u32 (t : Nat), .string D, .int .i64 n, v] 44))
          generalize w.alloc (.cells #[.int .i64 1, .string p, .string q, .int .i64 0, .int .i64 m, .int .u32 (t : Nat), .string D, .int .i64 n, v] 44) = w0 at *
          generalize w.heap.size = q0 at *
          have c0 := HB0.out.cell 0 rfl
          have c1 := HB0.out.cell 1 rfl
          have c2 := HB0.out.cell 2 rfl
          have c3 := HB0.out.cell 3 rfl
          have c4 := HB0.out.cell 4 rfl
          have c5 := HB0.out.cell 5 rfl
          have c6 := HB0.out.cell 6 rfl
          have c7 := HB0.out.cell 7 rfl
          have c8 := HB0.out.cell 8 rfl
          go_wp2_with fail
          refine (HNP.out _).mono ?_
          rintro e z1 ⟨rfl, hz1⟩
          have HB1 := Lib.hid (HB0.out.upd hz1 (by simp))
          have HU1 := Lib.hid (HU0.out.then hz1)
          clear hz1 c0 c1 c2 c3 c4 c5 c6 c7 c8
          have c0 := HB1.out.cell 0 rfl
          have c1 := HB1.out.cell 1 rfl
          have c2 := HB1.out.cell 2 rfl
          have c3 := HB1.out.cell 3 rfl
          have c4 := HB1.out.cell 4 rfl
          have c5 := HB1.out.cell 5 rfl
          have c6 := HB1.out.cell 6 rfl
          have c7 := HB1.out.cell 7 rfl
          have c8 := HB1.out.cell 8 rfl
          go_wp2_with fail
          refine (HND.out _).mono ?_
          rintro e z2 ⟨rfl, hz2⟩
          have HB2 := Lib.hid (HB1.out.upd hz2 (by simp))
          have HU2 := Lib.hid (HU1.out.then hz2)
          clear hz2 c0 c1 c2 c3 c4 c5 c6 c7 c8
          have c0 := HB2.out.cell 0 rfl
          have c1 := HB2.out.cell 1 rfl
          have c2 := HB2.out.cell 2 rfl
          have c3 := HB2.out.cell 3 rfl
          have c4 := HB2.out.cell 4 rfl
          have c5 := HB2.out.cell 5 rfl
          have c6 := HB2.out.cell 6 rfl
          have c7 := HB2.out.cell 7 rfl
          have c8 := HB2.out.cell 8 rfl
          go_wp2
          go_ret
          exact ⟨by rw [HV.out]; rfl, HU2.out⟩
        · have HV : Hid (mayE ⟨1, p, q, k, m, t, D, n, v, l⟩ = true) := Lib.hid (by rw [HV0.out, decide_eq_true hk]; rfl)
          have hkb : (k == 0) = false := by simpa using hk
          have hkb2 : (k != 0) = true := by simpa using hk
          clear hk
          have HB0 := Lib.hid (Blk.new w [.int .i64 1, .string p, .string q, .int .i64 k, .int .i64 m, .int .u32 (t : Nat), .string D, .int .i64 n, v] 44)
          have HU0 := Lib.hid ((Upd.refl [] w).alloc (.cells #[.int .i64 1, .string p, .string q, .int .i64 k, .int .i64 m, .int .u32 (t : Nat), .string D, .int .i64 n, v] 44))
          unfold EvN.val EvN.cells
          dsimp only
          go_enter Tryd.func102, Tryd.ntmps102
          go_upto_region 1 with fail
          change Code.wp _ _ _ _ (w.alloc (.cells #[.int .i64 1, .string p, .string q, .int .i64 k, .int .i64 m, .int .u32 (t : Nat), .string D, .int .i64 n, v] 44))
          generalize w.alloc (.cells #[.int .i64 1, .string p, .string q, .int .i64 k, .int .i64 m, .int .u32 (t : Nat), .string D, .int .i64 n, v] 44) = w0 at *
          generalize w.heap.size = q0 at *
          have c0 := HB0.out.cell 0 rfl
          have c1 := HB0.out.cell 1 rfl
          have c2 := HB0.out.cell 2 rfl
          have c3 := HB0.out.cell 3 rfl
          have c4 := HB0.out.cell 4 rfl
          have c5 := HB0.out.cell 5 rfl
          have c6 := HB0.out.cell 6 rfl
          have c7 := HB0.out.cell 7 rfl
          have c8 := HB0.out.cell 8 rfl
          go_wp2_with fail
          refine (HNP.out _).mono ?_
          rintro e z1 ⟨rfl, hz1⟩
          have HB1 := Lib.hid (HB0.out.upd hz1 (by simp))
          have HU1 := Lib.hid (HU0.out.then hz1)
          clear hz1 c0 c1 c2 c3 c4 c5 c6 c7 c8
          have c0 := HB1.out.cell 0 rfl
          have c1 := HB1.out.cell 1 rfl
          have c2 := HB1.out.cell 2 rfl
          have c3 := HB1.out.cell 3 rfl
          have c4 := HB1.out.cell 4 rfl
          have c5 := HB1.out.cell 5 rfl
          have c6 := HB1.out.cell 6 rfl
          have c7 := HB1.out.cell 7 rfl
          have c8 := HB1.out.cell 8 rfl
          go_wp2_with fail
          refine (HND.out _).mono ?_
          rintro e z2 ⟨rfl, hz2⟩
          have HB2 := Lib.hid (HB1.out.upd hz2 (by simp))
          have HU2 := Lib.hid (HU1.out.then hz2)
          clear hz2 c0 c1 c2 c3 c4 c5 c6 c7 c8
          have c0 := HB2.out.cell 0 rfl
          have c1 := HB2.out.cell 1 rfl
          have c2 := HB2.out.cell 2 rfl
          have c3 := HB2.out.cell 3 rfl
          have c4 := HB2.out.cell 4 rfl
          have c5 := HB2.out.cell 5 rfl
          have c6 := HB2.out.cell 6 rfl
          have c7 := HB2.out.cell 7 rfl
          have c8 := HB2.out.cell 8 rfl
          go_wp2
          go_ret
          exact ⟨by rw [HV.out]; rfl, HU2.out⟩
      · have HV : Hid (mayE ⟨1, p, q, k, m, t, D, n, v, l⟩ = false) := Lib.hid (by rw [HV0.out, decide_eq_false hne]; rfl)
        have hneb : ((ne : Int) == 0) = false := by simp; omega
        clear hne
        have HB0 := Lib.hid (Blk.new w [.int .i64 1, .string p, .string q, .int .i64 k, .int .i64 m, .int .u32 (t : Nat), .string D, .int .i64 n, v] 44)
        have HU0 := Lib.hid ((Upd.refl [] w).alloc (.cells #[.int .i64 1, .string p, .string q, .int .i64 k, .int .i64 m, .int .u32 (t : Nat), .string D, .int .i64 n, v] 44))
        unfold EvN.val EvN.cells
        dsimp only
        go_enter Tryd.func102, Tryd.ntmps102
        go_upto_region 1 with fail
        change Code.wp _ _ _ _ (w.alloc (.cells #[.int .i64 1, .string p, .string q, .int .i64 k, .int .i64 m, .int .u32 (t : Nat), .string D, .int .i64 n, v] 44))
        generalize w.alloc (.cells #[.int .i64 1, .string p, .string q, .int .i64 k, .int .i64 m, .int .u32 (t : Nat), .string D, .int .i64 n, v] 44) = w0 at *
        generalize w.heap.size = q0 at *
        have c0 := HB0.out.cell 0 rfl
        have c1 := HB0.out.cell 1 rfl
        have c2 := HB0.out.cell 2 rfl
        have c3 := HB0.out.cell 3 rfl
        have c4 := HB0.out.cell 4 rfl
        have c5 := HB0.out.cell 5 rfl
        have c6 := HB0.out.cell 6 rfl
        have c7 := HB0.out.cell 7 rfl
        have c8 := HB0.out.cell 8 rfl
        go_wp2_with fail
        refine (HNP.out _).mono ?_
        rintro e z1 ⟨rfl, hz1⟩
        have HB1 := Lib.hid (HB0.out.upd hz1 (by simp))
        have HU1 := Lib.hid (HU0.out.then hz1)
        clear hz1 c0 c1 c2 c3 c4 c5 c6 c7 c8
        have c0 := HB1.out.cell 0 rfl
        have c1 := HB1.out.cell 1 rfl
        have c2 := HB1.out.cell 2 rfl
        have c3 := HB1.out.cell 3 rfl
        have c4 := HB1.out.cell 4 rfl
        have c5 := HB1.out.cell 5 rfl
        have c6 := HB1.out.cell 6 rfl
        have c7 := HB1.out.cell 7 rfl
        have c8 := HB1.out.cell 8 rfl
        go_wp2_with fail
        refine (HND.out _).mono ?_
        rintro e z2 ⟨rfl, hz2⟩
        have HB2 := Lib.hid (HB1.out.upd hz2 (by simp))
        have HU2 := Lib.hid (HU1.out.then hz2)
        clear hz2 c0 c1 c2 c3 c4 c5 c6 c7 c8
        have c0 := HB2.out.cell 0 rfl
        have c1 := HB2.out.cell 1 rfl
        have c2 := HB2.out.cell 2 rfl
        have c3 := HB2.out.cell 3 rfl
        have c4 := HB2.out.cell 4 rfl
        have c5 := HB2.out.cell 5 rfl
        have c6 := HB2.out.cell 6 rfl
        have c7 := HB2.out.cell 7 rfl
        have c8 := HB2.out.cell 8 rfl
        go_wp2
        go_ret
        exact ⟨by rw [HV.out]; rfl, HU2.out⟩
  · have HV0 : Hid (mayE ⟨4, p, q, k, m, t, D, n, v, l⟩ = (rightP (bytesOf p) && decide (nodeErr k m t D = 0))) := Lib.hid rfl
    generalize rightP (bytesOf p) = bp at *
    generalize nodeErr k m t D = ne at *
    cases bp
    · have HV : Hid (mayE ⟨4, p, q, k, m, t, D, n, v, l⟩ = false) := Lib.hid (by rw [HV0.out]; rfl)
      have HB0 := Lib.hid (Blk.new w [.int .i64 4, .string p, .string q, .int .i64 k, .int .i64 m, .int .u32 (t : Nat), .string D, .int .i64 n, v] 44)
      have HU0 := Lib.hid ((Upd.refl [] w).alloc (.cells #[.int .i64 4, .string p, .string q, .int .i64 k, .int .i64 m, .int .u32 (t : Nat), .string D, .int .i64 n, v] 44))
      unfold EvN.val EvN.cells
      dsimp only
      go_enter Tryd.func102, Tryd.ntmps102
      go_upto_region 1 with fail
      change Code.wp _ _ _ _ (w.alloc (.cells #[.int .i64 4, .string p, .string q, .int .i64 k, .int .i64 m, .int .u32 (t : Nat), .string D, .int .i64 n, v] 44))
      generalize w.alloc (.cells #[.int .i64 4, .string p, .string q, .int .i64 k, .int .i64 m, .int .u32 (t : Nat), .string D, .int .i64 n, v] 44) = w0 at *
      generalize w.heap.size = q0 at *
      have c0 := HB0.out.cell 0 rfl
      have c1 := HB0.out.cell 1 rfl
      have c2 := HB0.out.cell 2 rfl
      have c3 := HB0.out.cell 3 rfl
      have c4 := HB0.out.cell 4 rfl
      have c5 := HB0.out.cell 5 rfl
      have c6 := HB0.out.cell 6 rfl
      have c7 := HB0.out.cell 7 rfl
      have c8 := HB0.out.cell 8 rfl
      go_wp2_with fail
      refine (HNP.out _).mono ?_
      rintro e z1 ⟨rfl, hz1⟩
      have HB1 := Lib.hid (HB0.out.upd hz1 (by simp))
      have HU1 := Lib.hid (HU0.out.then hz1)
      clear hz1 c0 c1 c2 c3 c4 c5 c6 c7 c8
      have c0 := HB1.out.cell 0 rfl
      have c1 := HB1.out.cell 1 rfl
      have c2 := HB1.out.cell 2 rfl
      have c3 := HB1.out.cell 3 rfl
      have c4 := HB1.out.cell 4 rfl
      have c5 := HB1.out.cell 5 rfl
      have c6 := HB1.out.cell 6 rfl
      have c7 := HB1.out.cell 7 rfl
      have c8 := HB1.out.cell 8 rfl
      go_wp2
      go_ret
      exact ⟨by rw [HV.out]; rfl, HU1.out⟩
    · by_cases hne : ne = 0
      · subst hne
        have HV : Hid (mayE ⟨4, p, q, k, m, t, D, n, v, l⟩ = true) := Lib.hid (by rw [HV0.out]; rfl)
        have HB0 := Lib.hid (Blk.new w [.int .i64 4, .string p, .string q, .int .i64 k, .int .i64 m, .int .u32 (t : Nat), .string D, .int .i64 n, v] 44)
        have HU0 := Lib.hid ((Upd.refl [] w).alloc (.cells #[.int .i64 4, .string p, .string q, .int .i64 k, .int .i64 m, .int .u32 (t : Nat), .string D, .int .i64 n, v] 44))
        unfold EvN.val EvN.cells
        dsimp only
        go_enter Tryd.func102, Tryd.ntmps102
        go_upto_region 1 with fail
        change Code.wp _ _ _ _ (w.alloc (.cells #[.int .i64 4, .string p, .string q, .int .i64 k, .int .i64 m, .int .u32 (t : Nat), .string D, .int .i64 n, v] 44))
        generalize w.alloc (.cells #[.int .i64 4, .string p, .string q, .int .i64 k, .int .i64 m, .int .u32 (t : Nat), .string D, .int .i64 n, v] 44) = w0 at *
        generalize w.heap.size = q0 at *
        have c0 := HB0.out.cell 0 rfl
        have c1 := HB0.out.cell 1 rfl
        have c2 := HB0.out.cell 2 rfl
        have c3 := HB0.out.cell 3 rfl
        have c4 := HB0.out.cell 4 rfl
        have c5 := HB0.out.cell 5 rfl
        have c6 := HB0.out.cell 6 rfl
        have c7 := HB0.out.cell 7 rfl
        have c8 := HB0.out.cell 8 rfl
        go_wp2_with fail
        refine (HNP.out _).mono ?_
        rintro e z1 ⟨rfl, hz1⟩
        have HB1 := Lib.hid (HB0.out.upd hz1 (by simp))
        have HU1 := Lib.hid (HU0.out.then hz1)
        clear hz1 c0 c1 c2 c3 c4 c5 c6 c7 c8
        have c0 := HB1.out.cell 0 rfl
        have c1 := HB1.out.cell 1 rfl
        have c2 := HB1.out.cell 2 rfl
        have c3 := HB1.out.cell 3 rfl
        have c4 := HB1.out.cell 4 rfl
        have c5 := HB1.out.cell 5 rfl
        have c6 := HB1.out.cell 6 rfl
        have c7 := HB1.out.cell 7 rfl
        have c8 := HB1.out.cell 8 rfl
        go_wp2_with fail
        refine (HND.out _).mono ?_
        rintro e z2 ⟨rfl, hz2⟩
        have HB2 := Lib.hid (HB1.out.upd hz2 (by simp))
        have HU2 := Lib.hid (HU1.out.then hz2)
        clear hz2 c0 c1 c2 c3 c4 c5 c6 c7 c8
        have c0 := HB2.out.cell 0 rfl
        have c1 := HB2.out.cell 1 rfl
        have c2 := HB2.out.cell 2 rfl
        have c3 := HB2.out.cell 3 rfl
        have c4 := HB2.out.cell 4 rfl
        have c5 := HB2.out.cell 5 rfl
        have c6 := HB2.out.cell 6 rfl
        have c7 := HB2.out.cell 7 rfl
        have c8 := HB2.out.cell 8 rfl
        go_wp2
        go_ret
        exact ⟨by rw [HV.out]; rfl, HU2.out⟩
      · have HV : Hid (mayE ⟨4, p, q, k, m, t, D, n, v, l⟩ = false) := Lib.hid (by rw [HV0.out, decide_eq_false hne]; rfl)
        have hneb : ((ne : Int) == 0) = false := by simp; omega
        clear hne
        have HB0 := Lib.hid (Blk.new w [.int .i64 4, .string p, .string q, .int .i64 k, .int .i64 m, .int .u32 (t : Nat), .string D, .int .i64 n, v] 44)
        have HU0 := Lib.hid ((Upd.refl [] w).alloc (.cells #[.int .i64 4, .string p, .string q, .int .i64 k, .int .i64 m, .int .u32 (t : Nat), .string D, .int .i64 n, v] 44))
        unfold EvN.val EvN.cells
        dsimp only
        go_enter Tryd.func102, Tryd.ntmps102
        go_upto_region 1 with fail
        change Code.wp _ _ _ _ (w.alloc (.cells #[.int .i64 4, .string p, .string q, .int .i64 k, .int .i64 m, .int .u32 (t : Nat), .string D, .int .i64 n, v] 44))
        generalize w.alloc (.cells #[.int .i64 4, .string p, .string q, .int .i64 k, .int .i64 m, .int .u32 (t : Nat), .string D, .int .i64 n, v] 44) = w0 at *
        generalize w.heap.size = q0 at *
        have c0 := HB0.out.cell 0 rfl
        have c1 := HB0.out.cell 1 rfl
        have c2 := HB0.out.cell 2 rfl
        have c3 := HB0.out.cell 3 rfl
        have c4 := HB0.out.cell 4 rfl
        have c5 := HB0.out.cell 5 rfl
        have c6 := HB0.out.cell 6 rfl
        have c7 := HB0.out.cell 7 rfl
        have c8 := HB0.out.cell 8 rfl
        go_wp2_with fail
        refine (HNP.out _).mono ?_
        rintro e z1 ⟨rfl, hz1⟩
        have HB1 := Lib.hid (HB0.out.upd hz1 (by simp))
        have HU1 := Lib.hid (HU0.out.then hz1)
        clear hz1 c0 c1 c2 c3 c4 c5 c6 c7 c8
        have c0 := HB1.out.cell 0 rfl
        have c1 := HB1.out.cell 1 rfl
        have c2 := HB1.out.cell 2 rfl
        have c3 := HB1.out.cell 3 rfl
        have c4 := HB1.out.cell 4 rfl
        have c5 := HB1.out.cell 5 rfl
        have c6 := HB1.out.cell 6 rfl
        have c7 := HB1.out.cell 7 rfl
        have c8 := HB1.out.cell 8 rfl
        go_wp2_with fail
        refine (HND.out _).mono ?_
        rintro e z2 ⟨rfl, hz2⟩
        have HB2 := Lib.hid (HB1.out.upd hz2 (by simp))
        have HU2 := Lib.hid (HU1.out.then hz2)
        clear hz2 c0 c1 c2 c3 c4 c5 c6 c7 c8
        have c0 := HB2.out.cell 0 rfl
        have c1 := HB2.out.cell 1 rfl
        have c2 := HB2.out.cell 2 rfl
        have c3 := HB2.out.cell 3 rfl
        have c4 := HB2.out.cell 4 rfl
        have c5 := HB2.out.cell 5 rfl
        have c6 := HB2.out.cell 6 rfl
        have c7 := HB2.out.cell 7 rfl
        have c8 := HB2.out.cell 8 rfl
        go_wp2
        go_ret
        exact ⟨by rw [HV.out]; rfl, HU2.out⟩
  · have HV : Hid (mayE ⟨2, p, q, k, m, t, D, n, v, l⟩ = rightP (bytesOf p)) := Lib.hid rfl
    generalize rightP (bytesOf p) = bp at *
    have HB0 := Lib.hid (Blk.new w [.int .i64 2, .string p, .string q, .int .i64 k, .int .i64 m, .int .u32 (t : Nat), .string D, .int .i64 n, v] 44)
    have HU0 := Lib.hid ((Upd.refl [] w).alloc (.cells #[.int .i64 2, .string p, .string q, .int .i64 k, .int .i64 m, .int .u32 (t : Nat), .string D, .int .i64 n, v] 44))
    unfold EvN.val EvN.cells
    dsimp only
    go_enter Tryd.func102, Tryd.ntmps102
    go_upto_region 1 with fail
    change Code.wp _ _ _ _ (w.alloc (.cells #[.int .i64 2, .string p, .string q, .int .i64 k, .int .i64 m, .int .u32 (t : Nat), .string D, .int .i64 n, v] 44))
    generalize w.alloc (.cells #[.int .i64 2, .string p, .string q, .int .i64 k, .int .i64 m, .int .u32 (t : Nat), .string D, .int .i64 n, v] 44) = w0 at *
    generalize w.heap.size = q0 at *
    have c0 := HB0.out.cell 0 rfl
    have c1 := HB0.out.cell 1 rfl
    have c2 := HB0.out.cell 2 rfl
    have c3 := HB0.out.cell 3 rfl
    have c4 := HB0.out.cell 4 rfl
    have c5 := HB0.out.cell 5 rfl
    have c6 := HB0.out.cell 6 rfl
    have c7 := HB0.out.cell 7 rfl
    have c8 := HB0.out.cell 8 rfl
    go_wp2_with fail
    refine (HNP.out _).mono ?_
    rintro e z1 ⟨rfl, hz1⟩
    have HB1 := Lib.hid (HB0.out.upd hz1 (by simp))
    have HU1 := Lib.hid (HU0.out.then hz1)
    clear hz1 c0 c1 c2 c3 c4 c5 c6 c7 c8
    have c0 := HB1.out.cell 0 rfl
    have c1 := HB1.out.cell 1 rfl
    have c2 := HB1.out.cell 2 rfl
    have c3 := HB1.out.cell 3 rfl
    have c4 := HB1.out.cell 4 rfl
    have c5 := HB1.out.cell 5 rfl
    have c6 := HB1.out.cell 6 rfl
    have c7 := HB1.out.cell 7 rfl
    have c8 := HB1.out.cell 8 rfl
    go_wp2
    go_ret
    exact ⟨by rw [HV.out]; rfl, HU1.out⟩
  · have HV0 : Hid (mayE ⟨3, p, q, k, m, t, D, n, v, l⟩ = (rightP (bytesOf p) && rightP (bytesOf q))) := Lib.hid rfl
    generalize rightP (bytesOf p) = bp at *
    generalize rightP (bytesOf q) = bq at *
    cases bp
    · have HV : Hid (mayE ⟨3, p, q, k, m, t, D, n, v, l⟩ = false) := Lib.hid (by rw [HV0.out]; rfl)
      have HB0 := Lib.hid (Blk.new w [.int .i64 3, .string p, .string q, .int .i64 k, .int .i64 m, .int .u32 (t : Nat), .string D, .int .i64 n, v] 44)
      have HU0 := Lib.hid ((Upd.refl [] w).alloc (.cells #[.int .i64 3, .string p, .string q, .int .i64 k, .int .i64 m, .int .u32 (t : Nat), .string D, .int .i64 n, v] 44))
      unfold EvN.val EvN.cells
      dsimp only
      go_enter Tryd.func102, Tryd.ntmps102
      go_upto_region 1 with fail
      change Code.wp _ _ _ _ (w.alloc (.cells #[.int .i64 3, .string p, .string q, .int .i64 k, .int .i64 m, .int .u32 (t : Nat), .string D, .int .i64 n, v] 44))
      generalize w.alloc (.cells #[.int .i64 3, .string p, .string q, .int .i64 k, .int .i64 m, .int .u32 (t : Nat), .string D, .int .i64 n, v] 44) = w0 at *
      generalize w.heap.size = q0 at *
      have c0 := HB0.out.cell 0 rfl
      have c1 := HB0.out.cell 1 rfl
      have c2 := HB0.out.cell 2 rfl
      have c3 := HB0.out.cell 3 rfl
      have c4 := HB0.out.cell 4 rfl
      have c5 := HB0.out.cell 5 rfl
      have c6 := HB0.out.cell 6 rfl
      have c7 := HB0.out.cell 7 rfl
      have c8 := HB0.out.cell 8 rfl
      go_wp2_with fail
      refine (HNP.out _).mono ?_
      rintro e z1 ⟨rfl, hz1⟩
      have HB1 := Lib.hid (HB0.out.upd hz1 (by simp))
      have HU1 := Lib.hid (HU0.out.then hz1)
      clear hz1 c0 c1 c2 c3 c4 c5 c6 c7 c8
      have c0 := HB1.out.cell 0 rfl
      have c1 := HB1.out.cell 1 rfl
      have c2 := HB1.out.cell 2 rfl
      have c3 := HB1.out.cell 3 rfl
      have c4 := HB1.out.cell 4 rfl
      have c5 := HB1.out.cell 5 rfl
      have c6 := HB1.out.cell 6 rfl
      have c7 := HB1.out.cell 7 rfl
      have c8 := HB1.out.cell 8 rfl
      go_wp2
      go_ret
      exact ⟨by rw [HV.out]; rfl, HU1.out⟩
    · have HV : Hid (mayE ⟨3, p, q, k, m, t, D, n, v, l⟩ = bq) := Lib.hid (by rw [HV0.out]; rfl)
      have HB0 := Lib.hid (Blk.new w [.int .i64 3, .string p, .string q, .int .i64 k, .int .i64 m, .int .u32 (t : Nat), .string D, .int .i64 n, v] 44)
      have HU0 := Lib.hid ((Upd.refl [] w).alloc (.cells #[.int .i64 3, .string p, .string q, .int .i64 k, .int .i64 m, .int .u32 (t : Nat), .string D, .int .i64 n, v] 44))
      unfold EvN.val EvN.cells
      dsimp only
      go_enter Tryd.func102, Tryd.ntmps102
      go_upto_region 1 with fail
      change Code.wp _ _ _ _ (w.alloc (.cells #[.int .i64 3, .string p, .string q, .int .i64 k, .int .i64 m, .int .u32 (t : Nat), .string D, .int .i64 n, v] 44))
      generalize w.alloc (.cells #[.int .i64 3, .string p, .string q, .int .i64 k, .int .i64 m, .int .u32 (t : Nat), .string D, .int .i64 n, v] 44) = w0 at *
      generalize w.heap.size = q0 at *
      have c0 := HB0.out.cell 0 rfl
      have c1 := HB0.out.cell 1 rfl
      have c2 := HB0.out.cell 2 rfl
      have c3 := HB0.out.cell 3 rfl
      have c4 := HB0.out.cell 4 rfl
      have c5 := HB0.out.cell 5 rfl
      have c6 := HB0.out.cell 6 rfl
      have c7 := HB0.out.cell 7 rfl
      have c8 := HB0.out.cell 8 rfl
      go_wp2_with fail
      refine (HNP.out _).mono ?_
      rintro e z1 ⟨rfl, hz1⟩
      have HB1 := Lib.hid (HB0.out.upd hz1 (by simp))
      have HU1 := Lib.hid (HU0.out.then hz1)
      clear hz1 c0 c1 c2 c3 c4 c5 c6 c7 c8
      have c0 := HB1.out.cell 0 rfl
      have c1 := HB1.out.cell 1 rfl
      have c2 := HB1.out.cell 2 rfl
      have c3 := HB1.out.cell 3 rfl
      have c4 := HB1.out.cell 4 rfl
      have c5 := HB1.out.cell 5 rfl
      have c6 := HB1.out.cell 6 rfl
      have c7 := HB1.out.cell 7 rfl
      have c8 := HB1.out.cell 8 rfl
      go_wp2_with fail
      refine (HNQ.out _).mono ?_
      rintro e z2 ⟨rfl, hz2⟩
      have HB2 := Lib.hid (HB1.out.upd hz2 (by simp))
      have HU2 := Lib.hid (HU1.out.then hz2)
      clear hz2 c0 c1 c2 c3 c4 c5 c6 c7 c8
      have c0 := HB2.out.cell 0 rfl
      have c1 := HB2.out.cell 1 rfl
      have c2 := HB2.out.cell 2 rfl
      have c3 := HB2.out.cell 3 rfl
      have c4 := HB2.out.cell 4 rfl
      have c5 := HB2.out.cell 5 rfl
      have c6 := HB2.out.cell 6 rfl
      have c7 := HB2.out.cell 7 rfl
      have c8 := HB2.out.cell 8 rfl
      go_wp2
      go_ret
      exact ⟨by rw [HV.out]; rfl, HU2.out⟩
  · have HV : Hid (mayE ⟨5, p, q, k, m, t, D, n, v, l⟩ = decide (0 ≤ n ∧ n ≤ 3)) := Lib.hid rfl
    have HPO := Lib.hid (fun w => spolicy_any n w)
    generalize decide (0 ≤ n ∧ n ≤ 3) = bn at *
    have HB0 := Lib.hid (Blk.new w [.int .i64 5, .string p, .string q, .int .i64 k, .int .i64 m, .int .u32 (t : Nat), .string D, .int .i64 n, v] 44)
    have HU0 := Lib.hid ((Upd.refl [] w).alloc (.cells #[.int .i64 5, .string p, .string q, .int .i64 k, .int .i64 m, .int .u32 (t : Nat), .string D, .int .i64 n, v] 44))
    unfold EvN.val EvN.cells
    dsimp only
    go_enter Tryd.func102, Tryd.ntmps102
    go_upto_region 1 with fail
    change Code.wp _ _ _ _ (w.alloc (.cells #[.int .i64 5, .string p, .string q, .int .i64 k, .int .i64 m, .int .u32 (t : Nat), .string D, .int .i64 n, v] 44))
    generalize w.alloc (.cells #[.int .i64 5, .string p, .string q, .int .i64 k, .int .i64 m, .int .u32 (t : Nat), .string D, .int .i64 n, v] 44) = w0 at *
    generalize w.heap.size = q0 at *
    have c0 := HB0.out.cell 0 rfl
    have c1 := HB0.out.cell 1 rfl
    have c2 := HB0.out.cell 2 rfl
    have c3 := HB0.out.cell 3 rfl
    have c4 := HB0.out.cell 4 rfl
    have c5 := HB0.out.cell 5 rfl
    have c6 := HB0.out.cell 6 rfl
    have c7 := HB0.out.cell 7 rfl
    have c8 := HB0.out.cell 8 rfl
    go_wp2_with fail
    refine (HPO.out _).mono ?_
    rintro e z1 ⟨rfl, hz1⟩
    subst hz1
    go_wp2
    go_ret
    exact ⟨by rw [HV.out]; rfl, HU0.out⟩
  · have HV0 : Hid (mayE ⟨11, p, q, k, m, t, D, n, v, l⟩ = decide (-1 ≤ n ∧ n ≤ 100000)) := Lib.hid rfl
    by_cases hn1 : -1 ≤ n
    · by_cases hn2 : n ≤ 100000
      · have HV : Hid (mayE ⟨11, p, q, k, m, t, D, n, v, l⟩ = true) := Lib.hid (by rw [HV0.out]; exact decide_eq_true ⟨hn1, hn2⟩)
        have HB0 := Lib.hid (Blk.new w [.int .i64 11, .string p, .string q, .int .i64 k, .int .i64 m, .int .u32 (t : Nat), .string D, .int .i64 n, v] 44)
        have HU0 := Lib.hid ((Upd.refl [] w).alloc (.cells #[.int .i64 11, .string p, .string q, .int .i64 k, .int .i64 m, .int .u32 (t : Nat), .string D, .int .i64 n, v] 44))
        unfold EvN.val EvN.cells
        dsimp only
        go_enter Tryd.func102, Tryd.ntmps102
        go_upto_region 1 with fail
        change Code.wp _ _ _ _ (w.alloc (.cells #[.int .i64 11, .string p, .string q, .int .i64 k, .int .i64 m, .int .u32 (t : Nat), .string D, .int .i64 n, v] 44))
        generalize w.alloc (.cells #[.int .i64 11, .string p, .string q, .int .i64 k, .int .i64 m, .int .u32 (t : Nat), .string D, .int .i64 n, v] 44) = w0 at *
        generalize w.heap.size = q0 at *
        have c0 := HB0.out.cell 0 rfl
        have c1 := HB0.out.cell 1 rfl
        have c2 := HB0.out.cell 2 rfl
        have c3 := HB0.out.cell 3 rfl
        have c4 := HB0.out.cell 4 rfl
        have c5 := HB0.out.cell 5 rfl
        have c6 := HB0.out.cell 6 rfl
        have c7 := HB0.out.cell 7 rfl
        have c8 := HB0.out.cell 8 rfl
        go_wp2
        go_ret
        exact ⟨by rw [HV.out]; rfl, HU0.out⟩
      · have HV : Hid (mayE ⟨11, p, q, k, m, t, D, n, v, l⟩ = false) := Lib.hid (by rw [HV0.out]; exact decide_eq_false (fun h => hn2 h.2))
        have HB0 := Lib.hid (Blk.new w [.int .i64 11, .string p, .string q, .int .i64 k, .int .i64 m, .int .u32 (t : Nat), .string D, .int .i64 n, v] 44)
        have HU0 := Lib.hid ((Upd.refl [] w).alloc (.cells #[.int .i64 11, .string p, .string q, .int .i64 k, .int .i64 m, .int .u32 (t : Nat), .string D, .int .i64 n, v] 44))
        unfold EvN.val EvN.cells
        dsimp only
        go_enter Tryd.func102, Tryd.ntmps102
        go_upto_region 1 with fail
        change Code.wp _ _ _ _ (w.alloc (.cells #[.int .i64 11, .string p, .string q, .int .i64 k, .int .i64 m, .int .u32 (t : Nat), .string D, .int .i64 n, v] 44))
        generalize w.alloc (.cells #[.int .i64 11, .string p, .string q, .int .i64 k, .int .i64 m, .int .u32 (t : Nat), .string D, .int .i64 n, v] 44) = w0 at *
        generalize w.heap.size = q0 at *
        have c0 := HB0.out.cell 0 rfl
        have c1 := HB0.out.cell 1 rfl
        have c2 := HB0.out.cell 2 rfl
        have c3 := HB0.out.cell 3 rfl
        have c4 := HB0.out.cell 4 rfl
        have c5 := HB0.out.cell 5 rfl
        have c6 := HB0.out.cell 6 rfl
        have c7 := HB0.out.cell 7 rfl
        have c8 := HB0.out.cell 8 rfl
        go_wp2
        go_ret
        exact ⟨by rw [HV.out]; rfl, HU0.out⟩
    · have HV : Hid (mayE ⟨11, p, q, k, m, t, D, n, v, l⟩ = false) := Lib.hid (by rw [HV0.out]; exact decide_eq_false (fun h => hn1 h.1))
      have HB0 := Lib.hid (Blk.new w [.int .i64 11, .string p, .string q, .int .i64 k, .int .i64 m, .int .u32 (t : Nat), .string D, .int .i64 n, v] 44)
      have HU0 := Lib.hid ((Upd.refl [] w).alloc (.cells #[.int .i64 11, .string p, .string q, .int .i64 k, .int .i64 m, .int .u32 (t : Nat), .string D, .int .i64 n, v] 44))
      unfold EvN.val EvN.cells
      dsimp only
      go_enter Tryd.func102, Tryd.ntmps102
      go_upto_region 1 with fail
      change Code.wp _ _ _ _ (w.alloc (.cells #[.int .i64 11, .string p, .string q, .int .i64 k, .int .i64 m, .int .u32 (t : Nat), .string D, .int .i64 n, v] 44))
      generalize w.alloc (.cells #[.int .i64 11, .string p, .string q, .int .i64 k, .int .i64 m, .int .u32 (t : Nat), .string D, .int .i64 n, v] 44) = w0 at *
      generalize w.heap.size = q0 at *
      have c0 := HB0.out.cell 0 rfl
      have c1 := HB0.out.cell 1 rfl
      have c2 := HB0.out.cell 2 rfl
      have c3 := HB0.out.cell 3 rfl
      have c4 := HB0.out.cell 4 rfl
      have c5 := HB0.out.cell 5 rfl
      have c6 := HB0.out.cell 6 rfl
      have c7 := HB0.out.cell 7 rfl
      have c8 := HB0.out.cell 8 rfl
      go_wp2
      go_ret
      exact ⟨by rw [HV.out]; rfl, HU0.out⟩
  · have HV0 : Hid (mayE ⟨12, p, q, k, m, t, D, n, v, l⟩ = decide (-1 ≤ n ∧ n ≤ 100000)) := Lib.hid rfl
    by_cases hn1 : -1 ≤ n
    · by_cases hn2 : n ≤ 100000
      · have HV : Hid (mayE ⟨12, p, q, k, m, t, D, n, v, l⟩ = true) := Lib.hid (by rw [HV0.out]; exact decide_eq_true ⟨hn1, hn2⟩)
        have HB0 := Lib.hid (Blk.new w [.int .i64 12, .string p, .string q, .int .i64 k, .int .i64 m, .int .u32 (t : Nat), .string D, .int .i64 n, v] 44)
        have HU0 := Lib.hid ((Upd.refl [] w).alloc (.cells #[.int .i64 12, .string p, .string q, .int .i64 k, .int .i64 m, .int .u32 (t : Nat), .string D, .int .i64 n, v] 44))
        unfold EvN.val EvN.cells
        dsimp only
        go_enter Tryd.func102, Tryd.ntmps102
        go_upto_region 1 with fail
        change Code.wp _ _ _ _ (w.alloc (.cells #[.int .i64 12, .string p, .string q, .int .i64 k, .int .i64 m, .int .u32 (t : Nat), .string D, .int .i64 n, v] 44))
        generalize w.alloc (.cells #[.int .i64 12, .string p, .string q, .int .i64 k, .int .i64 m, .int .u32 (t : Nat), .string D, .int .i64 n, v] 44) = w0 at *
        generalize w.heap.size = q0 at *
        have c0 := HB0.out.cell 0 rfl
        have c1 := HB0.out.cell 1 rfl
        have c2 := HB0.out.cell 2 rfl
        have c3 := HB0.out.cell 3 rfl
        have c4 := HB0.out.cell 4 rfl
        have c5 := HB0.out.cell 5 rfl
        have c6 := HB0.out.cell 6 rfl
        have c7 := HB0.out.cell 7 rfl
        have c8 := HB0.out.cell 8 rfl
        go_wp2
        go_ret
        exact ⟨by rw [HV.out]; rfl, HU0.out⟩
      · have HV : Hid (mayE ⟨12, p, q, k, m, t, D, n, v, l⟩ = false) := Lib.hid (by rw [HV0.out]; exact decide_eq_false (fun h => hn2 h.2))
        have HB0 := Lib.hid (Blk.new w [.int .i64 12, .string p, .string q, .int .i64 k, .int .i64 m, .int .u32 (t : Nat), .string D, .int .i64 n, v] 44)
        have HU0 := Lib.hid ((Upd.refl [] w).alloc (.cells #[.int .i64 12, .string p, .string q, .int .i64 k, .int .i64 m, .int .u32 (t : Nat), .string D, .int .i64 n, v] 44))
        unfold EvN.val EvN.cells
        dsimp only
        go_enter Tryd.func102, Tryd.ntmps102
        go_upto_region 1 with fail
        change Code.wp _ _ _ _ (w.alloc (.cells #[.int .i64 12, .string p, .string q, .int .i64 k, .int .i64 m, .int .u32 (t : Nat), .string D, .int .i64 n, v] 44))
        generalize w.alloc (.cells #[.int .i64 12, .string p, .string q, .int .i64 k, .int .i64 m, .int .u32 (t : Nat), .string D, .int .i64 n, v] 44) = w0 at *
        generalize w.heap.size = q0 at *
        have c0 := HB0.out.cell 0 rfl
        have c1 := HB0.out.cell 1 rfl
        have c2 := HB0.out.cell 2 rfl
        have c3 := HB0.out.cell 3 rfl
        have c4 := HB0.out.cell 4 rfl
        have c5 := HB0.out.cell 5 rfl
        have c6 := HB0.out.cell 6 rfl
        have c7 := HB0.out.cell 7 rfl
        have c8 := HB0.out.cell 8 rfl
        go_wp2
        go_ret
        exact ⟨by rw [HV.out]; rfl, HU0.out⟩
    · have HV : Hid (mayE ⟨12, p, q, k, m, t, D, n, v, l⟩ = false) := Lib.hid (by rw [HV0.out]; exact decide_eq_false (fun h => hn1 h.1))
      have HB0 := Lib.hid (Blk.new w [.int .i64 12, .string p, .string q, .int .i64 k, .int .i64 m, .int .u32 (t : Nat), .string D, .int .i64 n, v] 44)
      have HU0 := Lib.hid ((Upd.refl [] w).alloc (.cells #[.int .i64 12, .string p, .string q, .int .i64 k, .int .i64 m, .int .u32 (t : Nat), .string D, .int .i64 n, v] 44))
      unfold EvN.val EvN.cells
      dsimp only
      go_enter Tryd.func102, Tryd.ntmps102
      go_upto_region 1 with fail
      change Code.wp _ _ _ _ (w.alloc (.cells #[.int .i64 12, .string p, .string q, .int .i64 k, .int .i64 m, .int .u32 (t : Nat), .string D, .int .i64 n, v] 44))
      generalize w.alloc (.cells #[.int .i64 12, .string p, .string q, .int .i64 k, .int .i64 m, .int .u32 (t : Nat), .string D, .int .i64 n, v] 44) = w0 at *
      generalize w.heap.size = q0 at *
      have c0 := HB0.out.cell 0 rfl
      have c1 := HB0.out.cell 1 rfl
      have c2 := HB0.out.cell 2 rfl
      have c3 := HB0.out.cell 3 rfl
      have c4 := HB0.out.cell 4 rfl
      have c5 := HB0.out.cell 5 rfl
      have c6 := HB0.out.cell 6 rfl
      have c7 := HB0.out.cell 7 rfl
      have c8 := HB0.out.cell 8 rfl
      go_wp2
      go_ret
      exact ⟨by rw [HV.out]; rfl, HU0.out⟩
  · have HV0 : Hid (mayE ⟨13, p, q, k, m, t, D, n, v, l⟩ = decide (-1 ≤ n ∧ n ≤ 100000)) := Lib.hid rfl
    by_cases hn1 : -1 ≤ n
    · by_cases hn2 : n ≤ 100000
      · have HV : Hid (mayE ⟨13, p, q, k, m, t, D, n, v, l⟩ = true) := Lib.hid (by rw [HV0.out]; exact decide_eq_true ⟨hn1, hn2⟩)
        have HB0 := Lib.hid (Blk.new w [.int .i64 13, .string p, .string q, .int .i64 k, .int .i64 m, .int .u32 (t : Nat), .string D, .int .i64 n, v] 44)
        have HU0 := Lib.hid ((Upd.refl [] w).alloc (.cells #[.int .i64 13, .string p, .string q, .int .i64 k, .int .i64 m, .int .u32 (t : Nat), .string D, .int .i64 n, v] 44))
        unfold EvN.val EvN.cells
        dsimp only
        go_enter Tryd.func102, Tryd.ntmps102
        go_upto_region 1 with fail
        change Code.wp _ _ _ _ (w.alloc (.cells #[.int .i64 13, .string p, .string q, .int .i64 k, .int .i64 m, .int .u32 (t : Nat), .string D, .int .i64 n, v] 44))
        generalize w.alloc (.cells #[.int .i64 13, .string p, .string q, .int .i64 k, .int .i64 m, .int .u32 (t : Nat), .string D, .int .i64 n, v] 44) = w0 at *
        generalize w.heap.size = q0 at *
        have c0 := HB0.out.cell 0 rfl
        have c1 := HB0.out.cell 1 rfl
        have c2 := HB0.out.cell 2 rfl
        have c3 := HB0.out.cell 3 rfl
        have c4 := HB0.out.cell 4 rfl
        have c5 := HB0.out.cell 5 rfl
        have c6 := HB0.out.cell 6 rfl
        have c7 := HB0.out.cell 7 rfl
        have c8 := HB0.out.cell 8 rfl
        go_wp2
        go_ret
        exact ⟨by rw [HV.out]; rfl, HU0.out⟩
      · have HV : Hid (mayE ⟨13, p, q, k, m, t, D, n, v, l⟩ = false) := Lib.hid (by rw [HV0.out]; exact decide_eq_false (fun h => hn2 h.2))
        have HB0 := Lib.hid (Blk.new w [.int .i64 13, .string p, .string q, .int .i64 k, .int .i64 m, .int .u32 (t : Nat), .string D, .int .i64 n, v] 44)
        have HU0 := Lib.hid ((Upd.refl [] w).alloc (.cells #[.int .i64 13, .string p, .string q, .int .i64 k, .int .i64 m, .int .u32 (t : Nat), .string D, .int .i64 n, v] 44))
        unfold EvN.val EvN.cells
        dsimp only
        go_enter Tryd.func102, Tryd.ntmps102
        go_upto_region 1 with fail
        change Code.wp _ _ _ _ (w.alloc (.cells #[.int .i64 13, .string p, .string q, .int .i64 k, .int .i64 m, .int .u32 (t : Nat), .string D, .int .i64 n, v] 44))
        generalize w.alloc (.cells #[.int .i64 13, .string p, .string q, .int .i64 k, .int .i64 m, .int .u32 (t : Nat), .string D, .int .i64 n, v] 44) = w0 at *
        generalize w.heap.size = q0 at *
        have c0 := HB0.out.cell 0 rfl
        have c1 := HB0.out.cell 1 rfl
        have c2 := HB0.out.cell 2 rfl
        have c3 := HB0.out.cell 3 rfl
        have c4 := HB0.out.cell 4 rfl
        have c5 := HB0.out.cell 5 rfl
        have c6 := HB0.out.cell 6 rfl
        have c7 := HB0.out.cell 7 rfl
        have c8 := HB0.out.cell 8 rfl
        go_wp2
        go_ret
        exact ⟨by rw [HV.out]; rfl, HU0.out⟩
    · have HV : Hid (mayE ⟨13, p, q, k, m, t, D, n, v, l⟩ = false) := Lib.hid (by rw [HV0.out]; exact decide_eq_false (fun h => hn1 h.1))
      have HB0 := Lib.hid (Blk.new w [.int .i64 13, .string p, .string q, .int .i64 k, .int .i64 m, .int .u32 (t : Nat), .string D, .int .i64 n, v] 44)
      have HU0 := Lib.hid ((Upd.refl [] w).alloc (.cells #[.int .i64 13, .string p, .string q, .int .i64 k, .int .i64 m, .int .u32 (t : Nat), .string D, .int .i64 n, v] 44))
      unfold EvN.val EvN.cells
      dsimp only
      go_enter Tryd.func102, Tryd.ntmps102
      go_upto_region 1 with fail
      change Code.wp _ _ _ _ (w.alloc (.cells #[.int .i64 13, .string p, .string q, .int .i64 k, .int .i64 m, .int .u32 (t : Nat), .string D, .int .i64 n, v] 44))
      generalize w.alloc (.cells #[.int .i64 13, .string p, .string q, .int .i64 k, .int .i64 m, .int .u32 (t : Nat), .string D, .int .i64 n, v] 44) = w0 at *
      generalize w.heap.size = q0 at *
      have c0 := HB0.out.cell 0 rfl
      have c1 := HB0.out.cell 1 rfl
      have c2 := HB0.out.cell 2 rfl
      have c3 := HB0.out.cell 3 rfl
      have c4 := HB0.out.cell 4 rfl
      have c5 := HB0.out.cell 5 rfl
      have c6 := HB0.out.cell 6 rfl
      have c7 := HB0.out.cell 7 rfl
      have c8 := HB0.out.cell 8 rfl
      go_wp2
      go_ret
      exact ⟨by rw [HV.out]; rfl, HU0.out⟩
  · obtain ⟨va, vc, rfl, hvc, hvx⟩ := HVL.out
    clear hvx
    have HV0 : Hid (mayE ⟨14, p, q, k, m, t, D, n, .slice va l.length vc, l⟩ = decide (l.length ≤ 50 ∧ ∀ x ∈ l, 0 ≤ x ∧ x ≤ 1000)) := Lib.hid rfl
    have HAO := Lib.hid (any_odd l)
    have HCM := Lib.hid (fun w1 (hu : Upd [] w w1) => containsM_any l (.slice va l.length vc) w1 (HVL.out.upd hu) hll)
    by_cases hl50 : l.length ≤ 50
    · have HV : Hid (mayE ⟨14, p, q, k, m, t, D, n, .slice va l.length vc, l⟩ = !(l.any oddN)) := Lib.hid (by rw [HV0.out, HAO.out]; simp [hl50])
      generalize l.any oddN = ba at *
      generalize l.length = len at *
      have HB0 := Lib.hid (Blk.new w [.int .i64 14, .string p, .string q, .int .i64 k, .int .i64 m, .int .u32 (t : Nat), .string D, .int .i64 n, .slice va len vc] 44)
      have HU0 := Lib.hid ((Upd.refl [] w).alloc (.cells #[.int .i64 14, .string p, .string q, .int .i64 k, .int .i64 m, .int .u32 (t : Nat), .string D, .int .i64 n, .slice va len vc] 44))
      unfold EvN.val EvN.cells
      dsimp only
      go_enter Tryd.func102, Tryd.ntmps102
      go_upto_region 1 with fail
      change Code.wp _ _ _ _ (w.alloc (.cells #[.int .i64 14, .string p, .string q, .int .i64 k, .int .i64 m, .int .u32 (t : Nat), .string D, .int .i64 n, .slice va len vc] 44))
      generalize w.alloc (.cells #[.int .i64 14, .string p, .string q, .int .i64 k, .int .i64 m, .int .u32 (t : Nat), .string D, .int .i64 n, .slice va len vc] 44) = w0 at *
      generalize w.heap.size = q0 at *
      have c0 := HB0.out.cell 0 rfl
      have c1 := HB0.out.cell 1 rfl
      have c2 := HB0.out.cell 2 rfl
      have c3 := HB0.out.cell 3 rfl
      have c4 := HB0.out.cell 4 rfl
      have c5 := HB0.out.cell 5 rfl
      have c6 := HB0.out.cell 6 rfl
      have c7 := HB0.out.cell 7 rfl
      have c8 := HB0.out.cell 8 rfl
      go_wp2_with fail
      refine (HCM.out _ HU0.out).mono ?_
      rintro e z1 ⟨rfl, hz1⟩
      have HU1 := Lib.hid (HU0.out.then hz1)
      cases ba
      · go_wp2
        go_ret
        exact ⟨by rw [HV.out]; rfl, HU1.out⟩
      · go_wp2
        go_ret
        exact ⟨by rw [HV.out]; rfl, HU1.out⟩
    · have HV : Hid (mayE ⟨14, p, q, k, m, t, D, n, .slice va l.length vc, l⟩ = false) := Lib.hid (by rw [HV0.out]; exact decide_eq_false (fun h => hl50 h.1))
      generalize l.length = len at *
      have HB0 := Lib.hid (Blk.new w [.int .i64 14, .string p, .string q, .int .i64 k, .int .i64 m, .int .u32 (t : Nat), .string D, .int .i64 n, .slice va len vc] 44)
      have HU0 := Lib.hid ((Upd.refl [] w).alloc (.cells #[.int .i64 14, .string p, .string q, .int .i64 k, .int .i64 m, .int .u32 (t : Nat), .string D, .int .i64 n, .slice va len vc] 44))
      unfold EvN.val EvN.cells
      dsimp only
      go_enter Tryd.func102, Tryd.ntmps102
      go_upto_region 1 with fail
      change Code.wp _ _ _ _ (w.alloc (.cells #[.int .i64 14, .string p, .string q, .int .i64 k, .int .i64 m, .int .u32 (t : Nat), .string D, .int .i64 n, .slice va len vc] 44))
      generalize w.alloc (.cells #[.int .i64 14, .string p, .string q, .int .i64 k, .int .i64 m, .int .u32 (t : Nat), .string D, .int .i64 n, .slice va len vc] 44) = w0 at *
      generalize w.heap.size = q0 at *
      have c0 := HB0.out.cell 0 rfl
      have c1 := HB0.out.cell 1 rfl
      have c2 := HB0.out.cell 2 rfl
      have c3 := HB0.out.cell 3 rfl
      have c4 := HB0.out.cell 4 rfl
      have c5 := HB0.out.cell 5 rfl
      have c6 := HB0.out.cell 6 rfl
      have c7 := HB0.out.cell 7 rfl
      have c8 := HB0.out.cell 8 rfl
      go_wp2
      go_ret
      exact ⟨by rw [HV.out]; rfl, HU0.out⟩
  · have HV0 : Hid (mayE ⟨op, p, q, k, m, t, D, n, v, l⟩ = decide (1 ≤ op ∧ op ≤ 14)) := Lib.hid (by unfold mayE; rw [if_neg h1, if_neg h4, if_neg h2, if_neg h3, if_neg h5, if_neg (by dsimp only; omega), if_neg h14])
    have e1 : (op == 1) = false := by simpa using h1
    have e4 : (op == 4) = false := by simpa using h4
    have e2 : (op == 2) = false := by simpa using h2
    have e3 : (op == 3) = false := by simpa using h3
    have e5 : (op == 5) = false := by simpa using h5
    have e11 : (op == 11) = false := by simpa using h11
    have e12 : (op == 12) = false := by simpa using h12
    have e13 : (op == 13) = false := by simpa using h13
    have e14 : (op == 14) = false := by simpa using h14
    have HSN := Lib.hid (fun w => sname_any op w)
    have HNE : Hid ((strOf (nameN op)).toList.isEmpty = !decide (1 ≤ op ∧ op ≤ 14)) := Lib.hid (by
      by_cases h : 1 ≤ op ∧ op ≤ 14
      · rw [decide_eq_true h]
        have h2 := (nameN_at h).1
        rw [isEmpty_of, bytesOf_strOf _ (nameN_lt op)]
        exact decide_eq_false h2
      · rw [decide_eq_false h]
        have : nameN op = [] := if_neg h
        rw [isEmpty_of, bytesOf_strOf _ (nameN_lt op), this]
        rfl)
    have hne := HNE.out
    generalize decide (1 ≤ op ∧ op ≤ 14) = bo at *
    generalize strOf (nameN op) = NM at *
    have HV := HV0
    clear HNE HV0
    cases bo
    all_goals
      have HB0 := Lib.hid (Blk.new w [.int .i64 op, .string p, .string q, .int .i64 k, .int .i64 m, .int .u32 (t : Nat), .string D, .int .i64 n, v] 44)
      have HU0 := Lib.hid ((Upd.refl [] w).alloc (.cells #[.int .i64 op, .string p, .string q, .int .i64 k, .int .i64 m, .int .u32 (t : Nat), .string D, .int .i64 n, v] 44))
      unfold EvN.val EvN.cells
      dsimp only
      go_enter Tryd.func102, Tryd.ntmps102
      go_upto_region 1 with fail
      change Code.wp _ _ _ _ (w.alloc (.cells #[.int .i64 op, .string p, .string q, .int .i64 k, .int .i64 m, .int .u32 (t : Nat), .string D, .int .i64 n, v] 44))
      generalize w.alloc (.cells #[.int .i64 op, .string p, .string q, .int .i64 k, .int .i64 m, .int .u32 (t : Nat), .string D, .int .i64 n, v] 44) = w0 at *
      generalize w.heap.size = q0 at *
      have c0 := HB0.out.cell 0 rfl
      have c1 := HB0.out.cell 1 rfl
      have c2 := HB0.out.cell 2 rfl
      have c3 := HB0.out.cell 3 rfl
      have c4 := HB0.out.cell 4 rfl
      have c5 := HB0.out.cell 5 rfl
      have c6 := HB0.out.cell 6 rfl
      have c7 := HB0.out.cell 7 rfl
      have c8 := HB0.out.cell 8 rfl
      go_wp2_with fail
      refine (HSN.out _).mono ?_
      rintro e z1 ⟨rfl, hz1⟩
      subst hz1
      go_wp2
      go_ret
      exact ⟨by rw [HV.out]; rfl, HU0.out⟩
end Go.Proofs.YtigjingielnaoaaDoor
