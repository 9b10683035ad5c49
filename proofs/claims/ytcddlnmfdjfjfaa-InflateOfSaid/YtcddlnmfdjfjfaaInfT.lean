/- Package inflate: the walks of again, row. -/
import Derived.Test.YtcddlnmfdjfjfaaInf
namespace Go.Proofs.Ytcddlnmfdjfjfaa
open Go.RowKit
set_option linter.unusedVariables false

/-- A symbol that says how often which length comes. -/
def againP (s : ByteArray) (sym : Nat) (L : List Nat) (a : Nat) : Except Nat ((Nat × Nat) × Nat) :=
  if sym = 16 then (if L = [] then .error 2 else (takeP s a 2).map fun r => ((3 + r.1, L.getLastD 0), r.2))
  else if sym = 17 then (takeP s a 3).map fun r => ((3 + r.1, 0), r.2)
  else (takeP s a 7).map fun r => ((11 + r.1, 0), r.2)
def pairVal (r : (Nat × Nat) × Nat) : Value × Nat := (.tuple #[.int .i64 (r.1.1 : Nat), .int .i64 (r.1.2 : Nat)], r.2)

theorem takeP_cases (s : ByteArray) (a n : Nat) : (∃ v, v < 2 ^ n ∧ a + n ≤ 8 * s.size ∧ takeP s a n = .ok (v, a + n)) ∨ takeP s a n = .error 3 := by
  unfold takeP
  by_cases h : a + n ≤ 8 * s.size
  · exact .inl ⟨_, rdVal_lt s a n, h, by rw [if_pos h]⟩
  · exact .inr (by rw [if_neg h])

set_option maxRecDepth 100000 in
set_option maxHeartbeats 3200000 in
theorem again_any (b sym : Nat) (v : Value) (L : List Nat) (w : World) (s : ByteArray) (a : Nat) (hR : RdAt w b 89 s a false) (hs : s.size ≤ 1099511627776)
    (hL : Row w 3 1 v L.length (i64s L)) (hb : v.ownBlock ≠ some b) (hlen : L.length ≤ 100000) (h15 : ∀ x ∈ L, x ≤ 15) (hsym : sym ≤ 18) :
    Calls Try.prog 82 #[.agg #[.pointer (some ⟨b, 0, none⟩)], .int .i64 (sym : Nat), v] w
      (StepPost w b s ((againP s sym L a).map pairVal)) := by
  have hblt := hR.1.lt
  have hU0 : Upd [] w (w.alloc (.cells #[.pointer (some ⟨b, 0, none⟩)] 98)) := (Upd.refl [] w).alloc _
  have hP := Blk.new w [.pointer (some ⟨b, 0, none⟩)] 98
  have hR0 := hR.upd hU0 (by simp)
  have hU0b : Upd [b] w (w.alloc (.cells #[.pointer (some ⟨b, 0, none⟩)] 98)) := hU0.mono (by simp)
  obtain ⟨va, vc, rfl⟩ := hL.form
  by_cases h16 : sym = 16
  · subst h16
    by_cases hL0 : L = []
    · subst hL0
      have hp : againP s 16 [] a = .error 2 := by simp [againP]
      rw [hp]
      clear hp
      go_enter Try.func82, Try.ntmps82
      go_wp2_with fail
      refine (must_no _).mono ?_
      rintro e w2 ⟨rfl, rfl⟩
      go_wp2
      exact ⟨rfl, rfl, hU0b⟩
    · have hpos : 0 < L.length := List.length_pos_iff.2 hL0
      have hpf : decide ((0 : Int) < (L.length : Int)) = true := by simp; omega
      have hpz : (0 : Int) < (L.length : Int) := by omega
      have hp : againP s 16 L a = (takeP s a 2).map fun r => ((3 + r.1, L.getLastD 0), r.2) := by simp [againP, hL0]
      rw [hp]
      clear hp hL0
      obtain ⟨g, vc', hve, hg1, hg2⟩ := hL.form' hpos
      cases hve
      obtain ⟨y, hy⟩ : ∃ y, L.getLastD 0 = y := ⟨_, rfl⟩
      have hyl : L[L.length - 1]? = some y := by
        rw [← hy, List.getLastD_eq_getLast?, List.getLast?_eq_getElem?, List.getElem?_eq_getElem (by omega)]; rfl
      rw [hy]
      have d0 := Row.cell (hL.alloc (.cells #[.pointer (some ⟨b, 0, none⟩)] 98)) (L.length - 1) (i64s_get _ _ _ hyl)
      have hgb : g ≠ b := fun e => hb (by rw [e]; rfl)
      have c0 := hP.cell 0 rfl
      obtain ⟨M, hM⟩ : ∃ M, L.length = M + 1 := ⟨L.length - 1, by omega⟩
      rw [hM] at d0 hL hpf hpz hlen ⊢
      rw [Nat.add_sub_cancel] at d0
      clear hy hyl hM hb
      have e1 : IntKind.i64.wrap (M : Int) = (M : Int) := IntWalk.i64_in _ (by omega)
      have hM0 : (0 : Int) ≤ (M : Int) := by omega
      rcases takeP_cases s a 2 with ⟨t, ht4, hta, ht⟩ | ht
      · have HT := Lib.hid (take_ok (hR0.upd (Upd.drew (Upd.refl [] _)) (by simp)) hs (by omega) ht)
        rw [ht]
        go_enter Try.func82, Try.ntmps82
        go_wp2_with fail
        refine (must_yes _).mono ?_
        rintro e w2 ⟨rfl, rfl⟩
        have e2 : IntKind.i64.wrap (3 + (t : Int)) = 3 + (t : Int) := IntWalk.i64_in _ (by omega)
        have hM1 : (M : Int) < (M : Int) + 1 := by omega
        go_wp2
        go_region_law ((go_simp; go_at_call 64; refine HT.out.mono ?_; rintro e w4 ⟨rfl, hR4, hU4⟩; have d4 := (hU4.at (b := g) (by simp; omega) (by simpa using hgb) M).trans d0))
        all_goals go_wp2
        all_goals go_returns
        all_goals exact ⟨by first | (simp [Act.put]; done) | (simp [pairVal]; done), hR4, hU0b.drew.then hU4⟩
      · have HT := Lib.hid (take_err (hR0.upd (Upd.drew (Upd.refl [] _)) (by simp)) hs (by omega) ht)
        rw [ht]
        go_enter Try.func82, Try.ntmps82
        go_wp2_with fail
        refine (must_yes _).mono ?_
        rintro e w2 ⟨rfl, rfl⟩
        have hM1 : (M : Int) < (M : Int) + 1 := by omega
        go_wp2
        refine wp_region_held_drew (S := fun w' => w'.cell? ⟨w.heap.size, 0, none⟩ = some (.pointer (some ⟨b, 0, none⟩)) ∧ w'.cell? ⟨g, M, none⟩ = some (.int .i64 (y : Nat))) (by kernel_rfl) ⟨c0, d0⟩ (fun hHeld => ?_)
        refine wpAnyH_take (i := 0) (v := ?v0) rfl (by kernel_rfl) (by kernel_rfl) (by kernel_rfl) (fun _ _ _ h => h) (Or.inl ⟨by rfl, ?hy0⟩) (by assumption) ?r0
        case hy0 => (intro w hSw; (try dsimp only at hSw); go_simp; try with_reducible rfl)
        try simp only [Act.put, List.setIfInBounds_toArray, List.set_cons_zero, List.set_cons_succ]
        refine wpAnyH_take (i := 3) (v := ?v3) rfl (by kernel_rfl) (by kernel_rfl) (by kernel_rfl) (fun _ _ _ h => h) (Or.inl ⟨by rfl, ?hy3⟩) (by assumption) ?r3
        case hy3 => (intro w hSw; (try dsimp only at hSw); go_simp; try with_reducible rfl)
        try simp only [Act.put, List.setIfInBounds_toArray, List.set_cons_zero, List.set_cons_succ]
        refine wpAnyH_take (i := 4) (v := ?v4) rfl (by kernel_rfl) (by kernel_rfl) (by kernel_rfl) (fun _ _ _ h => h) (Or.inl ⟨by rfl, ?hy4⟩) (by assumption) ?r4
        case hy4 => (intro w hSw; (try dsimp only at hSw); go_simp; try with_reducible rfl)
        try simp only [Act.put, List.setIfInBounds_toArray, List.set_cons_zero, List.set_cons_succ]
        refine wpAnyH_take (i := 5) (v := ?v5) rfl (by kernel_rfl) (by kernel_rfl) (by kernel_rfl) (fun _ _ _ h => h) (Or.inl ⟨by rfl, ?hy5⟩) (by assumption) ?r5
        case hy5 => (intro w hSw; (try dsimp only at hSw); go_simp; try with_reducible rfl)
        try simp only [Act.put, List.setIfInBounds_toArray, List.set_cons_zero, List.set_cons_succ]
        refine wpAnyH_take (i := 6) (v := ?v6) rfl (by kernel_rfl) (by kernel_rfl) (by kernel_rfl) (fun _ _ _ h => h) (Or.inl ⟨by rfl, ?hy6⟩) (by assumption) ?r6
        case hy6 => (intro w hSw; (try dsimp only at hSw); go_simp; try with_reducible rfl)
        try simp only [Act.put, List.setIfInBounds_toArray, List.set_cons_zero, List.set_cons_succ]
        refine wpAnyH_take (i := 7) (v := ?v7) rfl (by kernel_rfl) (by kernel_rfl) (by kernel_rfl) (fun _ _ _ h => h) (Or.inl ⟨by rfl, ?hy7⟩) (by assumption) ?r7
        case hy7 => (intro w hSw; (try dsimp only at hSw); go_simp; try with_reducible rfl)
        try simp only [Act.put, List.setIfInBounds_toArray, List.set_cons_zero, List.set_cons_succ]
        refine wpAnyH_take (i := 8) (v := ?v8) rfl (by kernel_rfl) (by kernel_rfl) (by kernel_rfl) (fun _ _ _ h => h) (Or.inl ⟨by rfl, ?hy8⟩) (by assumption) ?r8
        case hy8 => (intro w hSw; (try dsimp only at hSw); go_simp; try with_reducible rfl)
        try simp only [Act.put, List.setIfInBounds_toArray, List.set_cons_zero, List.set_cons_succ]
        refine wpAnyH_ready (rs := [1]) (by kernel_rfl) (by simp) ?_
        refine AllReadyH.cons rfl (fun K hK => ?_) AllReadyH.nil
        go_simp
        go_at_call 64
        refine HT.out.mono ?_
        rintro e w4 ⟨rfl, hU4⟩
        go_wp2
        exact ⟨rfl, rfl, hU0b.drew.then hU4⟩
  · have h16f : ((sym : Int) == 16) = false := by simp; omega
    by_cases h17 : sym = 17
    · subst h17
      have hp : againP s 17 L a = (takeP s a 3).map fun r => ((3 + r.1, 0), r.2) := by simp [againP]
      rw [hp]
      clear hp
      rcases takeP_cases s a 3 with ⟨t, ht4, hta, ht⟩ | ht
      · have HT := Lib.hid (take_ok hR0 hs (by omega) ht)
        rw [ht]
        go_enter Try.func82, Try.ntmps82
        go_wp2_with fail
        refine HT.out.mono ?_
        rintro e w4 ⟨rfl, hR4, hU4⟩
        go_wp2
        go_returns
        exact ⟨by first | (simp [Act.put]; done) | (simp [pairVal]; done), hR4, hU0b.then hU4⟩
      · have HT := Lib.hid (take_err hR0 hs (by omega) ht)
        rw [ht]
        go_enter Try.func82, Try.ntmps82
        go_wp2_with fail
        refine HT.out.mono ?_
        rintro e w4 ⟨rfl, hU4⟩
        go_wp2
        exact ⟨rfl, rfl, hU0b.then hU4⟩
    · have h17f : ((sym : Int) == 17) = false := by simp; omega
      have hp : againP s sym L a = (takeP s a 7).map fun r => ((11 + r.1, 0), r.2) := by unfold againP; rw [if_neg h16, if_neg h17]
      rw [hp]
      clear hp
      rcases takeP_cases s a 7 with ⟨t, ht4, hta, ht⟩ | ht
      · have HT := Lib.hid (take_ok hR0 hs (by omega) ht)
        rw [ht]
        go_enter Try.func82, Try.ntmps82
        go_wp2_with fail
        refine HT.out.mono ?_
        rintro e w4 ⟨rfl, hR4, hU4⟩
        go_wp2
        go_returns
        exact ⟨by first | (simp [Act.put]; done) | (simp [pairVal]; done), hR4, hU0b.then hU4⟩
      · have HT := Lib.hid (take_err hR0 hs (by omega) ht)
        rw [ht]
        go_enter Try.func82, Try.ntmps82
        go_wp2_with fail
        refine HT.out.mono ?_
        rintro e w4 ⟨rfl, hU4⟩
        go_wp2
        exact ⟨rfl, rfl, hU0b.then hU4⟩
end Go.Proofs.Ytcddlnmfdjfjfaa
