/- Package lens: packed: its walk. -/
import Derived.Test.YtdehkaknbmbieaaGreatQAF
namespace Go.Proofs.YtdehkaknbmbieaaGreat
set_option linter.unusedVariables false
set_option linter.unusedSimpArgs false
set_option linter.unusedSectionVars false
open Go.RowKit
set_option linter.unusedVariables false
set_option linter.unusedSimpArgs false

/-- What is read of a new block behind another. -/
theorem newsC (w : World) (cs : Array Value) (t : TypeId) (p : Value) (e : TypeId) (hp : p.oneCell' = true) : ∀ j u, [p][j]? = some u → (((w.alloc (.cells cs t)).alloc (.cells #[p] e)).drew).cell? ((⟨w.heap.size + 1, 0, none⟩ : Addr).add j) = some u := by
  intro j u hu
  cases j with
  | zero =>
    simp at hu
    subst hu
    rw [add_zero]
    have := (Blk.new (w.alloc (.cells cs t)) [p] e).cell 0 rfl
    rw [World.size_alloc] at this
    exact this
  | succ j => simp at hu
theorem packC_get : ∀ (cs : List Coin) (k : Nat) {i : Nat} (hi : i = 2 * k) (h : i + 1 < cs.length), (packC cs)[k]? = some (.pack cs[i] cs[i + 1])
  | [], k, i, hi, h => by simp at h
  | [_], k, i, hi, h => by simp at h
  | a :: b :: r, 0, i, hi, h => by subst hi; rfl
  | a :: b :: r, k + 1, i, hi, h => by
    subst hi
    have ih := packC_get r k (i := 2 * k) rfl (by simp at h; omega)
    show (packC r)[k]? = _
    rw [ih]
    rfl
theorem Row.neB {w : World} {e t : TypeId} {size n b : Nat} {v : Value} {xs cs : List Value} (h : Row w e size v n xs) (hB : Blk w b cs t) (ht : t ≠ e) : v.ownBlock ≠ some b := by
  rcases h.2 with ⟨rfl, rfl⟩ | ⟨g', cap, cur, rfl, hb, hh, _⟩
  · simp [Value.ownBlock]
  · intro e2
    simp [Value.ownBlock] at e2
    subst e2
    unfold Blk at hB
    rw [hh] at hB
    simp at hB
    exact ht hB.2.symm
/-- A pair that was made: where its coin lies. -/
def PairAt (w0 w : World) (bg kk : Nat) (j : Nat) (p : Value) (c : Coin) : Prop := ∃ b, p = .pointer (some ⟨b, 0, none⟩) ∧ w0.heap.size ≤ b ∧ Blk w b [.int .i64 (c.w : Nat), .int .i64 0, .slice (some ⟨bg, 2 * j, none⟩) 2 (kk - 2 * j)] 168
set_option maxRecDepth 100000 in
set_option maxHeartbeats 6400000 in
theorem packed_any (v : Value) (ps : List Value) (cs : List Coin) (w : World) (h : Row w 166 1 v ps.length ps) (k : CoinsAt w ps cs) (hl : ps.length ≤ 1000) (hw : ∀ c ∈ cs, c.w ≤ 70368744177664) :
    Calls Tryz.prog 123 #[v] w fun e w' => ∃ v' ps', e = .returned v' ∧ OwnC w w' v' ps' ∧ CoinsAt w' ps' (packC cs) ∧ Upd [] w w' := by
  obtain ⟨i0, hi, hz0, hz1, hz2⟩ := info_parts infoCp
  have HR := Lib.hid h
  have K := Lib.hid k
  have HW := Lib.hid hw
  obtain ⟨a, kc, rfl⟩ := h.form
  obtain ⟨n, hn⟩ : ∃ n, ps.length = n := ⟨_, rfl⟩
  rw [hn] at hl HR ⊢
  have HN := Lib.hid hn
  clear h k hw hn
  go_enter Tryz.func123, Tryz.ntmps123
  go_wp2
  go_loopg [2, 3] 1000 (fun gg s2 s3 wr => ∃ (k i : Nat) (po : List Value), Hid (i = 2 * k) ∧ i ≤ n ∧ gg = 1000 - k ∧ s3 = .int .i64 (i : Nat) ∧ Hid (OwnC w wr s2 po) ∧ Hid (Upd [] w wr) ∧ Hid (po.length = k) ∧ Hid (∀ j p c, po[j]? = some p → (packC cs)[j]? = some c → ∃ bg, a = some ⟨bg, 0, none⟩ ∧ PairAt w wr bg kc j p c))
  case atStart => exact ⟨0, 0, [], Lib.hid rfl, by omega, rfl, rfl, Lib.hid (OwnC.nil _ _), Lib.hid (Upd.refl _ _), Lib.hid rfl, Lib.hid (fun j p c h => by simp at h)⟩
  case round =>
    obtain ⟨k, i, po, HIK, hin, rfl, rfl, HO, HU, HPL, HPA⟩ := hrel
    by_cases hc : i + 1 < n
    · have hcz : (i : Int) + 1 < (n : Int) := by omega
      have hi0 : i < ps.length := by rw [HN.out]; omega
      have hi1 : i + 1 < ps.length := by rw [HN.out]; exact hc
      obtain ⟨bg, kc2, hkk, hbg, hnk⟩ := HR.out.form' (by omega)
      have e1 : a = some ⟨bg, 0, none⟩ := by injection hkk
      have e2 : kc = kc2 := by injection hkk
      subst e1 e2
      have hc0 := HR.out.cell i (List.getElem?_eq_getElem hi0)
      have hc1 := HR.out.cell (i + 1) (List.getElem?_eq_getElem hi1)
      have hj0 : i < cs.length := by rw [← K.out.1]; exact hi0
      have hj1 : i + 1 < cs.length := by rw [← K.out.1]; exact hi1
      have hk0 := K.out.2 i _ _ (List.getElem?_eq_getElem hi0) (List.getElem?_eq_getElem hj0)
      have hk1 := K.out.2 (i + 1) _ _ (List.getElem?_eq_getElem hi1) (List.getElem?_eq_getElem hj1)
      have hw0 := HW.out _ (List.getElem_mem hj0)
      have hw1 := HW.out _ (List.getElem_mem hj1)
      have HPK : Hid ((packC cs)[k]? = some (.pack cs[i] cs[i + 1])) := Lib.hid (packC_get cs k (i := i) HIK.out hj1)
      generalize ps[i] = P0 at *
      generalize ps[i + 1] = P1 at *
      generalize cs[i] = x at *
      generalize cs[i + 1] = y at *
      obtain ⟨b0, u0, v0, rfl, hB0⟩ := hk0.head
      obtain ⟨b1, u1, v1, rfl, hB1⟩ := hk1.head
      have hd0 := hB0.cell 0 rfl
      have hd1 := hB1.cell 0 rfl
      have HXW : Hid ((Coin.pack x y).w = x.w + y.w) := Lib.hid rfl
      generalize x.w = m1 at *
      generalize y.w = m2 at *
      have HC0 := Lib.hid hc0
      have HC1 := Lib.hid hc1
      have HW0 := Lib.hid hd0
      have HW1 := Lib.hid hd1
      have HNK := Lib.hid hnk
      obtain ⟨va, vc, rfl⟩ := HO.out.form
      obtain ⟨fl, hfl⟩ : ∃ fl, po.length = fl := ⟨_, rfl⟩
      rw [hfl] at HO HPL ⊢
      have HFL := Lib.hid hfl
      have hflb : fl ≤ 1000 := by have := HPL.out; have := HIK.out; omega
      have hs1 : IntKind.i64.wrap ((i : Int) + 1) = ((i + 1 : Nat) : Int) := by rw [IntWalk.i64_in _ (by omega)]; rfl
      have hs2 : IntKind.i64.wrap ((i : Int) + 2) = ((i + 2 : Nat) : Int) := by rw [IntWalk.i64_in _ (by omega)]; rfl
      have hs3 : IntKind.i64.wrap ((m1 : Int) + (m2 : Int)) = ((m1 + m2 : Nat) : Int) := by rw [IntWalk.i64_in _ (by omega)]; simp
      have hb0 : (i : Int) < (n : Int) := by omega
      have hb1 : ((i + 1 : Nat) : Int) < (n : Int) := by omega
      have hb2 : ((i + 2 : Nat) : Int) ≤ (kc : Int) := by omega
      have hb3 : i + 2 - i = 2 := by omega
      have hb7 : (0 : Int) ≤ (i : Int) + 1 := by omega
      have hb8 : (0 : Int) ≤ (i : Int) + 2 := by omega
      have hb9 : (i : Int) + 2 ≤ (kc : Int) := by omega
      have hb10 : (i : Int) ≤ (i : Int) + 2 := by omega
      have hb4 : i + 2 ≤ kc := by omega
      have hb5 : ¬ kc = i := by omega
      have hb6 : (i : Int) ≤ ((i + 2 : Nat) : Int) := by omega
      clear hfl hc0 hc1 hd0 hd1 hk0 hk1 hB0 hB1 hi0 hi1 hj0 hj1 hkk
      go_wp2_with fail
      refine wp_region_held_drew (S := fun w' => Upd [] w w') (by kernel_rfl) HU.out.drew (fun hHeld => ?_)
      change wpAnyH _ _ _ _ _ 27 #[false, false, false, false, false, false, false, false, false, false, false, false, false, false, false, false, false, false, false, false, false, false, false, false, false, false, false] _ _
      refine heldTake (i := 0) (d := some 11) (v := ?v0_1) rfl rfl (by kernel_rfl) (by kernel_rfl) (by kernel_rfl) (fun _ _ _ h => h) (by rfl) ?hy0_1 (by assumption) ?r0_1
      case hy0_1 => (intro w hSw; (try dsimp only at hSw); go_simp; try with_reducible rfl)
      try simp only [Act.put, List.setIfInBounds_toArray, List.set_cons_zero, List.set_cons_succ]
      change wpAnyH _ _ _ _ _ 26 #[true, false, false, false, false, false, false, false, false, false, false, false, false, false, false, false, false, false, false, false, false, false, false, false, false, false, false] _ _
      refine heldTake (i := 1) (d := some 12) (v := ?v1_2) rfl rfl (by kernel_rfl) (by kernel_rfl) (by kernel_rfl) (fun _ _ _ h => h) (by rfl) ?hy1_2 (by assumption) ?r1_2
      case hy1_2 => (intro w hSw; (try dsimp only at hSw); go_simp; try with_reducible rfl)
      try simp only [Act.put, List.setIfInBounds_toArray, List.set_cons_zero, List.set_cons_succ]
      change wpAnyH _ _ _ _ _ 25 #[true, true, false, false, false, false, false, false, false, false, false, false, false, false, false, false, false, false, false, false, false, false, false, false, false, false, false] _ _
      refine heldTake (i := 2) (d := some 13) (v := ?v2_3) rfl rfl (by kernel_rfl) (by kernel_rfl) (by kernel_rfl) (fun _ _ _ h => h) (by rfl) ?hy2_3 (by assumption) ?r2_3
      case hy2_3 => (intro w hSw; (try dsimp only at hSw); go_simp; try with_reducible rfl)
      try simp only [Act.put, List.setIfInBounds_toArray, List.set_cons_zero, List.set_cons_succ]
      change wpAnyH _ _ _ _ _ 24 #[true, true, true, false, false, false, false, false, false, false, false, false, false, false, false, false, false, false, false, false, false, false, false, false, false, false, false] _ _
      refine heldTake (i := 3) (d := some 14) (v := ?v3_4) rfl rfl (by kernel_rfl) (by kernel_rfl) (by kernel_rfl) (fun _ _ _ h => h) (by rfl) ?hy3_4 (by assumption) ?r3_4
      case hy3_4 => (intro w hSw; (try dsimp only at hSw); go_simp; try with_reducible rfl)
      try simp only [Act.put, List.setIfInBounds_toArray, List.set_cons_zero, List.set_cons_succ]
      change wpAnyH _ _ _ _ _ 23 #[true, true, true, true, false, false, false, false, false, false, false, false, false, false, false, false, false, false, false, false, false, false, false, false, false, false, false] _ _
      refine heldTake (i := 4) (d := some 15) (v := ?v4_5) rfl rfl (by kernel_rfl) (by kernel_rfl) (by kernel_rfl) (fun _ _ _ h => h) (by rfl) ?hy4_5 (by assumption) ?r4_5
      case hy4_5 => (intro w0 hSw; have q0 := (hSw.at (cellLt HC0.out) (by simp) _).trans HC0.out; go_simp; try with_reducible rfl)
      try simp only [Act.put, List.setIfInBounds_toArray, List.set_cons_zero, List.set_cons_succ]
      change wpAnyH _ _ _ _ _ 22 #[true, true, true, true, true, false, false, false, false, false, false, false, false, false, false, false, false, false, false, false, false, false, false, false, false, false, false] _ _
      refine heldTake (i := 5) (d := some 16) (v := ?v5_6) rfl rfl (by kernel_rfl) (by kernel_rfl) (by kernel_rfl) (fun _ _ _ h => h) (by rfl) ?hy5_6 (by assumption) ?r5_6
      case hy5_6 => (intro w hSw; (try dsimp only at hSw); go_simp; try with_reducible rfl)
      try simp only [Act.put, List.setIfInBounds_toArray, List.set_cons_zero, List.set_cons_succ]
      change wpAnyH _ _ _ _ _ 21 #[true, true, true, true, true, true, false, false, false, false, false, false, false, false, false, false, false, false, false, false, false, false, false, false, false, false, false] _ _
      refine heldTake (i := 6) (d := some 17) (v := ?v6_7) rfl rfl (by kernel_rfl) (by kernel_rfl) (by kernel_rfl) (fun _ _ _ h => h) (by rfl) ?hy6_7 (by assumption) ?r6_7
      case hy6_7 => (intro w hSw; (try dsimp only at hSw); go_simp; try with_reducible rfl)
      try simp only [Act.put, List.setIfInBounds_toArray, List.set_cons_zero, List.set_cons_succ]
      change wpAnyH _ _ _ _ _ 20 #[true, true, true, true, true, true, true, false, false, false, false, false, false, false, false, false, false, false, false, false, false, false, false, false, false, false, false] _ _
      refine heldTake (i := 7) (d := some 18) (v := ?v7_8) rfl rfl (by kernel_rfl) (by kernel_rfl) (by kernel_rfl) (fun _ _ _ h => h) (by rfl) ?hy7_8 (by assumption) ?r7_8
      case hy7_8 => (intro w0 hSw; have q0 := (hSw.at (cellLt HW0.out) (by simp) _).trans HW0.out; go_simp; try with_reducible rfl)
      try simp only [Act.put, List.setIfInBounds_toArray, List.set_cons_zero, List.set_cons_succ]
      change wpAnyH _ _ _ _ _ 19 #[true, true, true, true, true, true, true, true, false, false, false, false, false, false, false, false, false, false, false, false, false, false, false, false, false, false, false] _ _
      refine heldTake (i := 8) (d := some 19) (v := ?v8_9) rfl rfl (by kernel_rfl) (by kernel_rfl) (by kernel_rfl) (fun _ _ _ h => h) (by rfl) ?hy8_9 (by assumption) ?r8_9
      case hy8_9 => (intro w hSw; (try dsimp only at hSw); go_simp; try with_reducible rfl)
      try simp only [Act.put, List.setIfInBounds_toArray, List.set_cons_zero, List.set_cons_succ]
      change wpAnyH _ _ _ _ _ 18 #[true, true, true, true, true, true, true, true, true, false, false, false, false, false, false, false, false, false, false, false, false, false, false, false, false, false, false] _ _
      refine heldTake (i := 9) (d := some 20) (v := ?v9_10) rfl rfl (by kernel_rfl) (by kernel_rfl) (by kernel_rfl) (fun _ _ _ h => h) (by rfl) ?hy9_10 (by assumption) ?r9_10
      case hy9_10 => (intro w hSw; (try dsimp only at hSw); go_simp; try with_reducible rfl)
      try simp only [Act.put, List.setIfInBounds_toArray, List.set_cons_zero, List.set_cons_succ]
      change wpAnyH _ _ _ _ _ 17 #[true, true, true, true, true, true, true, true, true, true, false, false, false, false, false, false, false, false, false, false, false, false, false, false, false, false, false] _ _
      refine heldTake (i := 10) (d := some 21) (v := (.int .i64 ((i + 1 : Nat) : Int))) rfl rfl (by kernel_rfl) (by kernel_rfl) (by kernel_rfl) (fun _ _ _ h => h) (by rfl) ?hy10_11 (by assumption) ?r10_11
      case hy10_11 => (intro w0 hSw; go_simp; all_goals rw [hs1])
      try simp only [Act.put, List.setIfInBounds_toArray, List.set_cons_zero, List.set_cons_succ]
      change wpAnyH _ _ _ _ _ 16 #[true, true, true, true, true, true, true, true, true, true, true, false, false, false, false, false, false, false, false, false, false, false, false, false, false, false, false] _ _
      refine heldTake (i := 11) (d := some 22) (v := ?v11_12) rfl rfl (by kernel_rfl) (by kernel_rfl) (by kernel_rfl) (fun _ _ _ h => h) (by rfl) ?hy11_12 (by assumption) ?r11_12
      case hy11_12 => (intro w hSw; (try dsimp only at hSw); go_simp; try with_reducible rfl)
      try simp only [Act.put, List.setIfInBounds_toArray, List.set_cons_zero, List.set_cons_succ]
      change wpAnyH _ _ _ _ _ 15 #[true, true, true, true, true, true, true, true, true, true, true, true, false, false, false, false, false, false, false, false, false, false, false, false, false, false, false] _ _
      refine heldTake (i := 12) (d := some 23) (v := ?v12_13) rfl rfl (by kernel_rfl) (by kernel_rfl) (by kernel_rfl) (fun _ _ _ h => h) (by rfl) ?hy12_13 (by assumption) ?r12_13
      case hy12_13 => (intro w0 hSw; have q0 := (hSw.at (cellLt HC1.out) (by simp) _).trans HC1.out; go_simp; try with_reducible rfl)
      try simp only [Act.put, List.setIfInBounds_toArray, List.set_cons_zero, List.set_cons_succ]
      change wpAnyH _ _ _ _ _ 14 #[true, true, true, true, true, true, true, true, true, true, true, true, true, false, false, false, false, false, false, false, false, false, false, false, false, false, false] _ _
      refine heldTake (i := 13) (d := some 24) (v := ?v13_14) rfl rfl (by kernel_rfl) (by kernel_rfl) (by kernel_rfl) (fun _ _ _ h => h) (by rfl) ?hy13_14 (by assumption) ?r13_14
      case hy13_14 => (intro w hSw; (try dsimp only at hSw); go_simp; try with_reducible rfl)
      try simp only [Act.put, List.setIfInBounds_toArray, List.set_cons_zero, List.set_cons_succ]
      change wpAnyH _ _ _ _ _ 13 #[true, true, true, true, true, true, true, true, true, true, true, true, true, true, false, false, false, false, false, false, false, false, false, false, false, false, false] _ _
      refine heldTake (i := 14) (d := some 25) (v := ?v14_15) rfl rfl (by kernel_rfl) (by kernel_rfl) (by kernel_rfl) (fun _ _ _ h => h) (by rfl) ?hy14_15 (by assumption) ?r14_15
      case hy14_15 => (intro w hSw; (try dsimp only at hSw); go_simp; try with_reducible rfl)
      try simp only [Act.put, List.setIfInBounds_toArray, List.set_cons_zero, List.set_cons_succ]
      change wpAnyH _ _ _ _ _ 12 #[true, true, true, true, true, true, true, true, true, true, true, true, true, true, true, false, false, false, false, false, false, false, false, false, false, false, false] _ _
      refine heldTake (i := 15) (d := some 26) (v := ?v15_16) rfl rfl (by kernel_rfl) (by kernel_rfl) (by kernel_rfl) (fun _ _ _ h => h) (by rfl) ?hy15_16 (by assumption) ?r15_16
      case hy15_16 => (intro w0 hSw; have q0 := (hSw.at (cellLt HW1.out) (by simp) _).trans HW1.out; go_simp; try with_reducible rfl)
      try simp only [Act.put, List.setIfInBounds_toArray, List.set_cons_zero, List.set_cons_succ]
      change wpAnyH _ _ _ _ _ 11 #[true, true, true, true, true, true, true, true, true, true, true, true, true, true, true, true, false, false, false, false, false, false, false, false, false, false, false] _ _
      refine heldTake (i := 16) (d := some 27) (v := (.int .i64 ((m1 + m2 : Nat) : Int))) rfl rfl (by kernel_rfl) (by kernel_rfl) (by kernel_rfl) (fun _ _ _ h => h) (by rfl) ?hy16_17 (by assumption) ?r16_17
      case hy16_17 => (intro w0 hSw; go_simp; all_goals rw [hs3])
      try simp only [Act.put, List.setIfInBounds_toArray, List.set_cons_zero, List.set_cons_succ]
      change wpAnyH _ _ _ _ _ 10 #[true, true, true, true, true, true, true, true, true, true, true, true, true, true, true, true, true, false, false, false, false, false, false, false, false, false, false] _ _
      refine heldTake (i := 17) (d := some 28) (v := ?v17_18) rfl rfl (by kernel_rfl) (by kernel_rfl) (by kernel_rfl) (fun _ _ _ h => h) (by rfl) ?hy17_18 (by assumption) ?r17_18
      case hy17_18 => (intro w hSw; (try dsimp only at hSw); go_simp; try with_reducible rfl)
      try simp only [Act.put, List.setIfInBounds_toArray, List.set_cons_zero, List.set_cons_succ]
      change wpAnyH _ _ _ _ _ 9 #[true, true, true, true, true, true, true, true, true, true, true, true, true, true, true, true, true, true, false, false, false, false, false, false, false, false, false] _ _
      refine heldTake (i := 18) (d := some 29) (v := ?v18_19) rfl rfl (by kernel_rfl) (by kernel_rfl) (by kernel_rfl) (fun _ _ _ h => h) (by rfl) ?hy18_19 (by assumption) ?r18_19
      case hy18_19 => (intro w hSw; (try dsimp only at hSw); go_simp; try with_reducible rfl)
      try simp only [Act.put, List.setIfInBounds_toArray, List.set_cons_zero, List.set_cons_succ]
      change wpAnyH _ _ _ _ _ 8 #[true, true, true, true, true, true, true, true, true, true, true, true, true, true, true, true, true, true, true, false, false, false, false, false, false, false, false] _ _
      refine heldTake (i := 19) (d := some 30) (v := ?v19_20) rfl rfl (by kernel_rfl) (by kernel_rfl) (by kernel_rfl) (fun _ _ _ h => h) (by rfl) ?hy19_20 (by assumption) ?r19_20
      case hy19_20 => (intro w hSw; (try dsimp only at hSw); go_simp; try with_reducible rfl)
      try simp only [Act.put, List.setIfInBounds_toArray, List.set_cons_zero, List.set_cons_succ]
      change wpAnyH _ _ _ _ _ 7 #[true, true, true, true, true, true, true, true, true, true, true, true, true, true, true, true, true, true, true, true, false, false, false, false, false, false, false] _ _
      refine heldTake (i := 20) (d := some 31) (v := (.int .i64 ((i + 2 : Nat) : Int))) rfl rfl (by kernel_rfl) (by kernel_rfl) (by kernel_rfl) (fun _ _ _ h => h) (by rfl) ?hy20_21 (by assumption) ?r20_21
      case hy20_21 => (intro w0 hSw; go_simp; all_goals rw [hs2])
      try simp only [Act.put, List.setIfInBounds_toArray, List.set_cons_zero, List.set_cons_succ]
      change wpAnyH _ _ _ _ _ 6 #[true, true, true, true, true, true, true, true, true, true, true, true, true, true, true, true, true, true, true, true, true, false, false, false, false, false, false] _ _
      refine heldTake (i := 21) (d := some 32) (v := (.slice (some ⟨bg, i, none⟩) 2 (kc - i))) rfl rfl (by kernel_rfl) (by kernel_rfl) (by kernel_rfl) (fun _ _ _ h => h) (by rfl) ?hy21_22 (by assumption) ?r21_22
      case hy21_22 => (intro w0 hSw; go_simp; all_goals omega)
      try simp only [Act.put, List.setIfInBounds_toArray, List.set_cons_zero, List.set_cons_succ]
      change wpAnyH _ _ _ _ _ 5 #[true, true, true, true, true, true, true, true, true, true, true, true, true, true, true, true, true, true, true, true, true, true, false, false, false, false, false] _ _
      refine heldTake (i := 22) (d := some 33) (v := ?v22_23) rfl rfl (by kernel_rfl) (by kernel_rfl) (by kernel_rfl) (fun _ _ _ h => h) (by rfl) ?hy22_23 (by assumption) ?r22_23
      case hy22_23 => (intro w hSw; (try dsimp only at hSw); go_simp; try with_reducible rfl)
      try simp only [Act.put, List.setIfInBounds_toArray, List.set_cons_zero, List.set_cons_succ]
      change wpAnyH _ _ _ _ _ 4 #[true, true, true, true, true, true, true, true, true, true, true, true, true, true, true, true, true, true, true, true, true, true, true, false, false, false, false] _ _
      refine wpAnyH_ready (rs := [23]) (by kernel_rfl) (by simp) ?_
      refine AllReadyH.cons rfl (fun K hK => ?_) AllReadyH.nil
      go_simp
      skip
      go_wp2
      refine hK.out _ _ (hHeld.alloc _) (fun hHeld => ?_)
      clear hK K
      try simp only [Act.put, List.setIfInBounds_toArray, List.set_cons_zero, List.set_cons_succ]
      change wpAnyH _ _ _ _ _ 3 #[true, true, true, true, true, true, true, true, true, true, true, true, true, true, true, true, true, true, true, true, true, true, true, true, false, false, false] _ _
      refine wpAnyH_ready (rs := [24]) (by kernel_rfl) (by simp) ?_
      refine AllReadyH.cons rfl (fun K hK => ?_) AllReadyH.nil
      go_simp
      skip
      go_wp2
      refine hK.out _ _ (hHeld.alloc _) (fun hHeld => ?_)
      clear hK K
      try simp only [Act.put, List.setIfInBounds_toArray, List.set_cons_zero, List.set_cons_succ]
      change wpAnyH _ _ _ _ _ 2 #[true, true, true, true, true, true, true, true, true, true, true, true, true, true, true, true, true, true, true, true, true, true, true, true, true, false, false] _ _
      refine wpAnyH_ready (rs := [25]) (by kernel_rfl) (by simp) ?_
      refine AllReadyH.cons rfl (fun K hK => ?_) AllReadyH.nil
      have hRz := ((HO.out.1.alloc (.cells #[.int .i64 ((m1 + m2 : Nat) : Int), .int .i64 0, .slice (some ⟨bg, i, none⟩) 2 (kc - i)] 168)).alloc (.cells #[.pointer (some ⟨wr.heap.size, 0, none⟩)] 166)).drew
      rw [HFL.out] at hRz
      refine step_app _ rfl _ _ 165 rfl 166 i0 _ 1 8 Tryz.underlying165 hi hz0 hz1 hz2 rfl (by omega) (.slice va fl vc) fl _ rfl hRz ⟨wr.heap.size + 1, 0, none⟩ 1 1 [.pointer (some ⟨wr.heap.size, 0, none⟩)] rfl rfl (newsC _ _ _ _ _ rfl) (by simp [Value.oneCell']) (by unfold maxLen; omega) (by omega) ?_
      intro v4 w4 hR4 hU4 hT4
      show K (Act.put _ (some 36) v4) w4
      refine hK.out _ _ (hHeld.trans hU4 (fun q hq => .inr (HO.out.2 q (by simpa using hq)))) (fun hHeld => ?_)
      clear hK K
      try simp only [Act.put, List.setIfInBounds_toArray, List.set_cons_zero, List.set_cons_succ]
      change wpAnyH _ _ _ _ _ 1 #[true, true, true, true, true, true, true, true, true, true, true, true, true, true, true, true, true, true, true, true, true, true, true, true, true, true, false] _ _
      refine heldTake (i := 26) (d := some 2) (v := ?v26_27) rfl rfl (by kernel_rfl) (by kernel_rfl) (by kernel_rfl) (fun _ _ _ h => h) (by rfl) ?hy26_27 (by assumption) ?r26_27
      case hy26_27 => (intro w hSw; (try dsimp only at hSw); go_simp; try with_reducible rfl)
      try simp only [Act.put, List.setIfInBounds_toArray, List.set_cons_zero, List.set_cons_succ]
      change wpAnyH _ _ _ _ _ 0 #[true, true, true, true, true, true, true, true, true, true, true, true, true, true, true, true, true, true, true, true, true, true, true, true, true, true, true] _ _
      refine wpAnyH_done (by kernel_rfl) ?_ 0
      have hmm : Upd [] wr (((wr.alloc (.cells #[.int .i64 ((m1 + m2 : Nat) : Int), .int .i64 0, .slice (some ⟨bg, i, none⟩) 2 (kc - i)] 168)).alloc (.cells #[.pointer (some ⟨wr.heap.size, 0, none⟩)] 166)).drew) := (((Upd.refl _ _).alloc _).alloc _).drew
      have hap := (HO.out.upd hmm).app (HU.out.then hmm) (ys := [.pointer (some ⟨wr.heap.size, 0, none⟩)]) (by rw [HFL.out]; exact hR4) hU4 hT4
      have hnb : Blk w4 wr.heap.size [.int .i64 ((m1 + m2 : Nat) : Int), .int .i64 0, .slice (some ⟨bg, i, none⟩) 2 (kc - i)] 168 := (((Blk.new wr [.int .i64 ((m1 + m2 : Nat) : Int), .int .i64 0, .slice (some ⟨bg, i, none⟩) 2 (kc - i)] 168).alloc (.cells #[.pointer (some ⟨wr.heap.size, 0, none⟩)] 166)).drew).upd hU4 (fun hm => by have := HO.out.1.lt _ (by simpa using hm); omega)
      have hpa2 : ∀ j p c, (po ++ [.pointer (some ⟨wr.heap.size, 0, none⟩)])[j]? = some p → (packC cs)[j]? = some c → ∃ bg2, some (⟨bg, 0, none⟩ : Addr) = some ⟨bg2, 0, none⟩ ∧ PairAt w w4 bg2 kc j p c := by
        intro j p c hp hcc
        by_cases hjk : j < po.length
        · rw [List.getElem?_append_left hjk] at hp
          obtain ⟨bg2, hb2, b, hb, hle, hBb⟩ := HPA.out j p c hp hcc
          exact ⟨bg2, hb2, b, hb, hle, (hBb.upd hmm (by simp)).upd hU4 (fun hm => (HO.out.1.neB hBb (by decide)) (by simpa using hm))⟩
        · rw [List.getElem?_append_right (by omega)] at hp
          have hj0 : j = k := by
            have hl := (List.getElem?_eq_some_iff.1 hp).1
            have := HFL.out; have := HPL.out
            simp at hl; omega
          subst hj0
          rw [HFL.out, HPL.out, Nat.sub_self] at hp
          rw [HPK.out] at hcc
          simp at hp hcc
          subst hp hcc
          refine ⟨bg, rfl, _, rfl, HU.out.size, ?_⟩
          rw [HXW.out, ← HIK.out]
          exact hnb
      have HAP := Lib.hid hap
      have HPA2 := Lib.hid hpa2
      clear hap hpa2 hnb hmm hR4 hU4 hT4 hRz
      go_wp2
      go_roundg (1000 - (k + 1))
      · exact ⟨k + 1, i + 2, _, Lib.hid (by have := HIK.out; omega), by omega, rfl, by first | rfl | go_num, Lib.hid HAP.out.1, Lib.hid HAP.out.2, Lib.hid (by rw [List.length_append, HFL.out, HPL.out]; rfl), HPA2⟩
      · have := HIK.out; omega
    · have hcz : ¬ (i : Int) + 1 < (n : Int) := by omega
      have hCS : CoinsAt wr po (packC cs) := by
        have hl : po.length = (packC cs).length := by
          rw [packC_length, ← K.out.1, HN.out, HPL.out]
          have := HIK.out
          omega
        refine ⟨hl, fun j p c hp hcc => ?_⟩
        obtain ⟨bg, hbg, b, rfl, hle, hBb⟩ := HPA.out j p c hp hcc
        cases hbg
        have hj := (List.getElem?_eq_some_iff.1 hp).1
        rw [hl, packC_length] at hj
        have h2 : 2 * j + 1 < cs.length := by omega
        rw [packC_get cs j (i := 2 * j) rfl h2] at hcc
        cases hcc
        rcases HR.out.2 with ⟨e, _⟩ | ⟨g, c2, cur, e, hb, hh, hnc, hcm, hcs, htk⟩
        · cases e
        · injection e with e1 e2 e3
          injection e1 with e1
          injection e1 with e1 _
          subst e1 e3
          have h3 : 2 * j + 1 < ps.length := by rw [K.out.1]; exact h2
          have hcur : ∀ q, q < ps.length → cur[q]? = ps[q]? := fun q hq => by
            rw [← htk, List.getElem?_take, if_pos (by rw [HN.out] at hq; omega)]
            simp
          exact ⟨b, bg, 2 * j, kc - 2 * j, _, _, cur, (0, 0), rfl, hBb, (HU.out.block bg (Array.getElem?_eq_some_iff.1 hh).1 (by simp)).trans hh,
            (hcur _ (by omega)).trans (List.getElem?_eq_getElem (by omega)), (hcur _ h3).trans (List.getElem?_eq_getElem h3),
            (K.out.2 _ _ _ (List.getElem?_eq_getElem (by omega)) (List.getElem?_eq_getElem (by omega))).upd HU.out, (K.out.2 _ _ _ (List.getElem?_eq_getElem h3) (List.getElem?_eq_getElem h2)).upd HU.out⟩
      have HCS := Lib.hid hCS
      clear hCS
      go_wp2
      go_ret
      first
        | exact ⟨_, rfl, po, HO.out, HCS.out, HU.out⟩
        | exact ⟨_, po, rfl, HO.out, HCS.out, HU.out⟩
end Go.Proofs.YtdehkaknbmbieaaGreat
