/- Package inflate: the walks of again, row. -/
import Derived.Test.YtdehkaknbmbieaaGreatQBO
namespace Go.Proofs.YtdehkaknbmbieaaGreat
set_option linter.unusedVariables false
set_option linter.unusedSimpArgs false
set_option linter.unusedSectionVars false
open Go.RowKit
set_option linter.unusedVariables false

/-- A symbol that says how often which length comes. -/
def againP (s : ByteArray) (sym : Nat) (L : List Nat) (a : Nat) : Except Nat ((Nat × Nat) × Nat) :=
  if sym = 16 then (if L = [] then .error 2 else (takeP s a 2).map fun r => ((3 + r.1, L.getLastD 0), r.2))
  else if sym = 17 then (takeP s a 3).map fun r => ((3 + r.1, 0), r.2)
  else (takeP s a 7).map fun r => ((11 + r.1, 0), r.2)
def pairVal (r : (Nat × Nat) × Nat) : Value × Nat := (.tuple #[.int .i64 (r.1.1 : Nat), .int .i64 (r.1.2 : Nat)], r.2)

theorem takeP_cases (s : ByteArray) (a n : Nat) : (∃ v, v < 2 ^ n ∧ a + n ≤ 8 * s.size ∧ takeP s a n = .ok (v, a + n)) ∨ takeP s a n = .error 3 := by
  unfold takeP
  by_cases h : a + n ≤ 8 * s.size
  · exact .inl ⟨_, rdVal_lt s a n, h, by rw [if_pos h]⟩
  · exact .inr (by rw [if_neg h])

set_option maxRecDepth 100000 in
set_option maxHeartbeats 3200000 in
theorem again_any (b sym : Nat) (v : Value) (L : List Nat) (w : World) (s : ByteArray) (a : Nat) (hR : RdAt w b 123 s a false) (hs : s.size ≤ 1099511627776)
    (hL : Row w 3 1 v L.length (i64s L)) (hb : v.ownBlock ≠ some b) (hlen : L.length ≤ 100000) (h15 : ∀ x ∈ L, x ≤ 15) (hsym : sym ≤ 18) :
    Calls Tryz.prog 137 #[.agg #[.pointer (some ⟨b, 0, none⟩)], .int .i64 (sym : Nat), v] w
      (StepPost w b s ((againP s sym L a).map pairVal)) := by
  have hblt := hR.1.lt
  have hU0 : Upd [] w (w.alloc (.cells #[.pointer (some ⟨b, 0, none⟩)] 82)) := (Upd.refl [] w).alloc _
  have hP := Blk.new w [.pointer (some ⟨b, 0, none⟩)] 82
  have hR0 := hR.upd hU0 (by simp)
  have hU0b : Upd [b] w (w.alloc (.cells #[.pointer (some ⟨b, 0, none⟩)] 82)) := hU0.mono (by simp)
  obtain ⟨va, vc, rfl⟩ := hL.form
  by_cases h16 : sym = 16
  · subst h16
    by_cases hL0 : L = []
    · subst hL0
      have hp : againP s 16 [] a = .error 2 := by simp [againP]
      rw [hp]
      clear hp
      go_enter Tryz.func137, Tryz.ntmps137
      go_wp2_with fail
      refine (must_no _).mono ?_
      rintro e w2 ⟨rfl, rfl⟩
      go_wp2
      exact ⟨rfl, rfl, hU0b⟩
    · have hpos : 0 < L.length := List.length_pos_iff.2 hL0
      have hpf : decide ((0 : Int) < (L.length : Int)) = true := by simp; omega
      have hpz : (0 : Int) < (L.length : Int) := by omega
      have hp : againP s 16 L a = (takeP s a 2).map fun r => ((3 + r.1, L.getLastD 0), r.2) := by simp [againP, hL0]
      rw [hp]
      clear hp hL0
      obtain ⟨g, vc', hve, hg1, hg2⟩ := hL.form' hpos
      cases hve
      obtain ⟨y, hy⟩ : ∃ y, L.getLastD 0 = y := ⟨_, rfl⟩
      have hyl : L[L.length - 1]? = some y := by
        rw [← hy, List.getLastD_eq_getLast?, List.getLast?_eq_getElem?, List.getElem?_eq_getElem (by omega)]; rfl
      rw [hy]
      have d0 := Row.cell (hL.alloc (.cells #[.pointer (some ⟨b, 0, none⟩)] 82)) (L.length - 1) (i64s_get _ _ _ hyl)
      have hgb : g ≠ b := fun e => hb (by rw [e]; rfl)
      have c0 := hP.cell 0 rfl
      obtain ⟨M, hM⟩ : ∃ M, L.length = M + 1 := ⟨L.length - 1, by omega⟩
      rw [hM] at d0 hL hpf hpz hlen ⊢
      rw [Nat.add_sub_cancel] at d0
      clear hy hyl hM hb
      have e1 : IntKind.i64.wrap (M : Int) = (M : Int) := IntWalk.i64_in _ (by omega)
      have hM0 : (0 : Int) ≤ (M : Int) := by omega
      rcases takeP_cases s a 2 with ⟨t, ht4, hta, ht⟩ | ht
      · have HT := Lib.hid (take_ok (hR0.upd (Upd.drew (Upd.refl [] _)) (by simp)) hs (by omega) ht)
        rw [ht]
        go_enter Tryz.func137, Tryz.ntmps137
        go_wp2_with fail
        refine (must_yes _).mono ?_
        rintro e w2 ⟨rfl, rfl⟩
        have e2 : IntKind.i64.wrap (3 + (t : Int)) = 3 + (t : Int) := IntWalk.i64_in _ (by omega)
        have hM1 : (M : Int) < (M : Int) + 1 := by omega
        go_wp2
        go_region_law ((go_simp; go_at_call 77; refine HT.out.mono ?_; rintro e w4 ⟨rfl, hR4, hU4⟩; have d4 := (hU4.at (b := g) (by simp; omega) (by simpa using hgb) M).trans d0))
        all_goals go_wp2
        all_goals go_returns
        all_goals exact ⟨by first | (simp [Act.put]; done) | (simp [pairVal]; done), hR4, hU0b.drew.then hU4⟩
      · have HT := Lib.hid (take_err (hR0.upd (Upd.drew (Upd.refl [] _)) (by simp)) hs (by omega) ht)
        rw [ht]
        go_enter Tryz.func137, Tryz.ntmps137
        go_wp2_with fail
        refine (must_yes _).mono ?_
        rintro e w2 ⟨rfl, rfl⟩
        have hM1 : (M : Int) < (M : Int) + 1 := by omega
        go_wp2
        refine wp_region_held_drew (S := fun w' => w'.cell? ⟨w.heap.size, 0, none⟩ = some (.pointer (some ⟨b, 0, none⟩)) ∧ w'.cell? ⟨g, M, none⟩ = some (.int .i64 (y : Nat))) (by kernel_rfl) ⟨c0, d0⟩ (fun hHeld => ?_)
        refine wpAnyH_take (i := 0) (v := ?v0) rfl (by kernel_rfl) (by kernel_rfl) (by kernel_rfl) (fun _ _ _ h => h) (Or.inl ⟨by rfl, ?hy0⟩) (by assumption) ?r0
        case hy0 => (intro w hSw; (try dsimp only at hSw); go_simp; try with_reducible rfl)
        try simp only [Act.put, List.setIfInBounds_toArray, List.set_cons_zero, List.set_cons_succ]
        refine wpAnyH_take (i := 3) (v := ?v3) rfl (by kernel_rfl) (by kernel_rfl) (by kernel_rfl) (fun _ _ _ h => h) (Or.inl ⟨by rfl, ?hy3⟩) (by assumption) ?r3
        case hy3 => (intro w hSw; (try dsimp only at hSw); go_simp; try with_reducible rfl)
        try simp only [Act.put, List.setIfInBounds_toArray, List.set_cons_zero, List.set_cons_succ]
        refine wpAnyH_take (i := 4) (v := ?v4) rfl (by kernel_rfl) (by kernel_rfl) (by kernel_rfl) (fun _ _ _ h => h) (Or.inl ⟨by rfl, ?hy4⟩) (by assumption) ?r4
        case hy4 => (intro w hSw; (try dsimp only at hSw); go_simp; try with_reducible rfl)
        try simp only [Act.put, List.setIfInBounds_toArray, List.set_cons_zero, List.set_cons_succ]
        refine wpAnyH_take (i := 5) (v := ?v5) rfl (by kernel_rfl) (by kernel_rfl) (by kernel_rfl) (fun _ _ _ h => h) (Or.inl ⟨by rfl, ?hy5⟩) (by assumption) ?r5
        case hy5 => (intro w hSw; (try dsimp only at hSw); go_simp; try with_reducible rfl)
        try simp only [Act.put, List.setIfInBounds_toArray, List.set_cons_zero, List.set_cons_succ]
        refine wpAnyH_take (i := 6) (v := ?v6) rfl (by kernel_rfl) (by kernel_rfl) (by kernel_rfl) (fun _ _ _ h => h) (Or.inl ⟨by rfl, ?hy6⟩) (by assumption) ?r6
        case hy6 => (intro w hSw; (try dsimp only at hSw); go_simp; try with_reducible rfl)
        try simp only [Act.put, List.setIfInBounds_toArray, List.set_cons_zero, List.set_cons_succ]
        refine wpAnyH_take (i := 7) (v := ?v7) rfl (by kernel_rfl) (by kernel_rfl) (by kernel_rfl) (fun _ _ _ h => h) (Or.inl ⟨by rfl, ?hy7⟩) (by assumption) ?r7
        case hy7 => (intro w hSw; (try dsimp only at hSw); go_simp; try with_reducible rfl)
        try simp only [Act.put, List.setIfInBounds_toArray, List.set_cons_zero, List.set_cons_succ]
        refine wpAnyH_take (i := 8) (v := ?v8) rfl (by kernel_rfl) (by kernel_rfl) (by kernel_rfl) (fun _ _ _ h => h) (Or.inl ⟨by rfl, ?hy8⟩) (by assumption) ?r8
        case hy8 => (intro w hSw; (try dsimp only at hSw); go_simp; try with_reducible rfl)
        try simp only [Act.put, List.setIfInBounds_toArray, List.set_cons_zero, List.set_cons_succ]
        refine wpAnyH_ready (rs := [1]) (by kernel_rfl) (by simp) ?_
        refine AllReadyH.cons rfl (fun K hK => ?_) AllReadyH.nil
        go_simp
        go_at_call 77
        refine HT.out.mono ?_
        rintro e w4 ⟨rfl, hU4⟩
        go_wp2
        exact ⟨rfl, rfl, hU0b.drew.then hU4⟩
  · have h16f : ((sym : Int) == 16) = false := by simp; omega
    by_cases h17 : sym = 17
    · subst h17
      have hp : againP s 17 L a = (takeP s a 3).map fun r => ((3 + r.1, 0), r.2) := by simp [againP]
      rw [hp]
      clear hp
      rcases takeP_cases s a 3 with ⟨t, ht4, hta, ht⟩ | ht
      · have HT := Lib.hid (take_ok hR0 hs (by omega) ht)
        rw [ht]
        go_enter Tryz.func137, Tryz.ntmps137
        go_wp2_with fail
        refine HT.out.mono ?_
        rintro e w4 ⟨rfl, hR4, hU4⟩
        go_wp2
        go_returns
        exact ⟨by first | (simp [Act.put]; done) | (simp [pairVal]; done), hR4, hU0b.then hU4⟩
      · have HT := Lib.hid (take_err hR0 hs (by omega) ht)
        rw [ht]
        go_enter Tryz.func137, Tryz.ntmps137
        go_wp2_with fail
        refine HT.out.mono ?_
        rintro e w4 ⟨rfl, hU4⟩
        go_wp2
        exact ⟨rfl, rfl, hU0b.then hU4⟩
    · have h17f : ((sym : Int) == 17) = false := by simp; omega
      have hp : againP s sym L a = (takeP s a 7).map fun r => ((11 + r.1, 0), r.2) := by unfold againP; rw [if_neg h16, if_neg h17]
      rw [hp]
      clear hp
      rcases takeP_cases s a 7 with ⟨t, ht4, hta, ht⟩ | ht
      · have HT := Lib.hid (take_ok hR0 hs (by omega) ht)
        rw [ht]
        go_enter Tryz.func137, Tryz.ntmps137
        go_wp2_with fail
        refine HT.out.mono ?_
        rintro e w4 ⟨rfl, hR4, hU4⟩
        go_wp2
        go_returns
        exact ⟨by first | (simp [Act.put]; done) | (simp [pairVal]; done), hR4, hU0b.then hU4⟩
      · have HT := Lib.hid (take_err hR0 hs (by omega) ht)
        rw [ht]
        go_enter Tryz.func137, Tryz.ntmps137
        go_wp2_with fail
        refine HT.out.mono ?_
        rintro e w4 ⟨rfl, hU4⟩
        go_wp2
        exact ⟨rfl, rfl, hU0b.then hU4⟩
end Go.Proofs.YtdehkaknbmbieaaGreat
namespace Go.Proofs.YtdehkaknbmbieaaGreat
set_option linter.unusedVariables false
set_option linter.unusedSimpArgs false
set_option linter.unusedSectionVars false
open Go.RowKit
set_option linter.unusedVariables false

/-- A length, or how often which. -/
def oneP (s : ByteArray) (k : Nat) (L : List Nat) (a : Nat) : Except Nat ((Nat × Nat) × Nat) := if 15 < k then againP s k L a else .ok ((1, k), a)
/-- Lengths, till there are as many. -/
def rowP (l : List Int) (s : ByteArray) (many : Nat) : Nat → List Nat → Nat → Except Nat (List Nat × Nat)
  | 0, L, a => .ok (L, a)
  | f + 1, L, a =>
    if L.length < many then
      match nextP l s a with
      | .error c => .error c
      | .ok r =>
        match oneP s r.1 L r.2 with
        | .error c => .error c
        | .ok q => if q.1.1 ≤ many - L.length then rowP l s many f (L ++ List.replicate q.1.1 q.1.2) q.2 else .error 2
    else .ok (L, a)
theorem rowP_end {l : List Int} {s : ByteArray} {many f a : Nat} {L : List Nat} (h : ¬ L.length < many) : rowP l s many f L a = .ok (L, a) := by
  cases f <;> simp [rowP, h]

theorem idx_lt (n : List Nat) (k i j : Nat) {x : Nat} (h : (idx n k i)[j]? = some x) : x < i := by
  have := List.mem_of_getElem? h
  simp only [idx, List.mem_filter, List.mem_range] at this
  exact this.1
theorem symAt_lt {n : List Nat} {k c x : Nat} (h : symAt n k c = some x) (hk : 1 ≤ k) : x < n.length := by
  unfold symAt at h
  split at h
  · rename_i hr
    have hl := length_idx_all n k hk
    have hj : c - fst n k < (idx n k n.length).length := by omega
    have hx : (idx n k n.length).getD (c - fst n k) 0 = x := Option.some.inj h
    rw [List.getD, List.getElem?_eq_getElem hj] at hx
    exact idx_lt n k n.length (c - fst n k) (by rw [List.getElem?_eq_getElem hj]; exact congrArg some hx)
  · cases h
theorem nxtF_lt (n : List Nat) (s : ByteArray) (f k a c : Nat) (hk : 1 ≤ k) {x : Nat} (h : (nxtF n s f k a c).1 = some x) : x < n.length := by
  induction f generalizing k a c with
  | zero => cases h
  | succ f ih =>
    by_cases h1 : a < 8 * s.size
    · cases hx : symAt n k (2 * c + rdVal s a 1) with
      | some y => rw [nxtF_some h1 hx] at h; cases h; exact symAt_lt hx hk
      | none => rw [nxtF_none h1 hx] at h; exact ih _ _ _ (by omega) h
    · rw [nxtF_end h1] at h; cases h
/-- What nextP tells of. -/
theorem nextP_cases (l : List Int) (s : ByteArray) (a : Nat) (ha : a ≤ 8 * s.size) : (∃ x a', x < l.length ∧ a' ≤ 8 * s.size ∧ a ≤ a' ∧ nextP l s a = .ok (x, a')) ∨ ∃ c, (c = 2 ∨ c = 3) ∧ nextP l s a = .error c := by
  unfold nextP
  split
  · exact .inr ⟨2, .inl rfl, rfl⟩
  · have hle := nxtF_le (nats l) s 15 1 a 0 ha
    have hlt := fun x => @nxtF_lt (nats l) s 15 1 a 0 (by omega) x
    have e : nxt (nats l) s a false = nxtF (nats l) s 15 1 a 0 := rfl
    rw [e]
    generalize nxtF (nats l) s 15 1 a 0 = rr at *
    obtain ⟨o, a', bad⟩ := rr
    cases o with
    | some x => exact .inl ⟨x, a', by have := hlt x rfl; rwa [length_nats] at this, hle.2.1, hle.1, rfl⟩
    | none => cases bad with
      | true => exact .inr ⟨3, .inr rfl, rfl⟩
      | false => exact .inr ⟨2, .inl rfl, rfl⟩
theorem oneP_cases (s : ByteArray) (k : Nat) (L : List Nat) (a : Nat) (ha : a ≤ 8 * s.size) (hk : k ≤ 18) (hL : ∀ x ∈ L, x ≤ 15) :
    (∃ n v a', 1 ≤ n ∧ n ≤ 200 ∧ v ≤ 15 ∧ a' ≤ 8 * s.size ∧ oneP s k L a = .ok ((n, v), a')) ∨ ∃ c, (c = 2 ∨ c = 3) ∧ oneP s k L a = .error c := by
  unfold oneP
  split
  · unfold againP
    split
    · split
      · exact .inr ⟨2, .inl rfl, rfl⟩
      · rename_i hL0
        rcases takeP_cases s a 2 with ⟨t, ht, hta, h⟩ | h
        · rw [h]; refine .inl ⟨3 + t, L.getLastD 0, a + 2, by omega, by omega, ?_, hta, rfl⟩
          rw [List.getLastD_eq_getLast?, List.getLast?_eq_some_getLast hL0]
          exact hL _ (List.getLast_mem hL0)
        · rw [h]; exact .inr ⟨3, .inr rfl, rfl⟩
    · split
      · rcases takeP_cases s a 3 with ⟨t, ht, hta, h⟩ | h
        · rw [h]; exact .inl ⟨3 + t, 0, a + 3, by omega, by omega, by omega, hta, rfl⟩
        · rw [h]; exact .inr ⟨3, .inr rfl, rfl⟩
      · rcases takeP_cases s a 7 with ⟨t, ht, hta, h⟩ | h
        · rw [h]; exact .inl ⟨11 + t, 0, a + 7, by omega, by omega, by omega, hta, rfl⟩
        · rw [h]; exact .inr ⟨3, .inr rfl, rfl⟩
  · exact .inl ⟨1, k, a, by omega, by omega, by omega, ha, rfl⟩

/-- Behind row. -/
def RowPost (w : World) (b : Nat) (s : ByteArray) (r : Except Nat (List Nat × Nat)) (e : Ending) (w' : World) : Prop :=
  match r with
  | .ok (L, a') => ∃ v, e = .returned v ∧ Row w' 3 1 v L.length (i64s L) ∧ RdAt w' b 123 s a' false ∧ Upd [b] w w' ∧ ∀ k, v.ownBlock = some k → w.heap.size ≤ k
  | .error c => e = .panicked [{ v := .iface 35 (.int .i64 (c : Nat)), recovered := false }] ∧ Upd [b] w w'
/-- Between rounds. -/
def RowRel (w0 : World) (b : Nat) (s : ByteArray) (L : List Nat) (v : Value) (a : Nat) (wr : World) : Prop :=
  Row wr 3 1 v L.length (i64s L) ∧ RdAt wr b 123 s a false ∧ Upd [b] w0 wr ∧ (∀ k, v.ownBlock = some k → w0.heap.size ≤ k) ∧ ∀ x ∈ L, x ≤ 15

set_option maxRecDepth 100000 in
set_option maxHeartbeats 3200000 in
theorem row_any (b many : Nat) (dv : Value) (l : List Int) (w : World) (s : ByteArray) (a : Nat) (hR : RdAt w b 123 s a false) (hs : s.size ≤ 1099511627776) (hD : DecFor w dv l b) (hl : l.length ≤ 19) (hm : many ≤ 1000) :
    Calls Tryz.prog 115 #[.agg #[.pointer (some ⟨b, 0, none⟩)], dv, .int .i64 (many : Nat)] w
      (RowPost w b s (rowP l s many many [] a)) := by
  have hblt := hR.1.lt
  have hU0 : Upd [] w (w.alloc (.cells #[.pointer (some ⟨b, 0, none⟩)] 82)) := (Upd.refl [] w).alloc _
  have hP := (Blk.new w [.pointer (some ⟨b, 0, none⟩)] 82)
  have hR0 := hR.upd hU0 (by simp)
  have hU0b : Upd [b] w (w.alloc (.cells #[.pointer (some ⟨b, 0, none⟩)] 82)) := hU0.mono (by simp)
  have hD0 : DecFor (w.alloc (.cells #[.pointer (some ⟨b, 0, none⟩)] 82)) dv l b := hD.upd hU0b
  have hsz0 : (w.alloc (.cells #[.pointer (some ⟨b, 0, none⟩)] 82)).heap.size = w.heap.size + 1 := by simp
  obtain ⟨i0, hi0, hz0, hz1, hz2⟩ := info_parts infoInt
  go_enter Tryz.func115, Tryz.ntmps115
  go_wp2
  have hRel0 : RowRel (w.alloc (.cells #[.pointer (some ⟨b, 0, none⟩)] 82)) b s [] (.slice none 0 0) a (w.alloc (.cells #[.pointer (some ⟨b, 0, none⟩)] 82)) :=
    ⟨Row.nil _ _ _, hR0, .refl _ _, by simp [Value.ownBlock], by simp⟩
  have hU0b' := Lib.hid hU0b
  clear hR hD hR0 hU0 hU0b
  generalize w.alloc (.cells #[.pointer (some ⟨b, 0, none⟩)] 82) = w0 at *
  go_loopg [6] many (fun g s6 wr => ∃ L f a', L.length ≤ many ∧ g = many - L.length ∧ many ≤ f + L.length ∧ rowP l s many many [] a = rowP l s many f L a' ∧ RowRel w0 b s L s6 a' wr)
  case atStart => exact ⟨[], many, a, by simp, by simp, by simp, rfl, hRel0⟩
  case round =>
    obtain ⟨L, f, a', hLm, rfl, hf, hrow, hRow, hRd, hU, hfr, h15⟩ := hrel
    clear hRel0
    obtain ⟨va, vc, rfl⟩ := hRow.form
    by_cases hc : L.length < many
    · have hcz : (L.length : Int) < (many : Int) := by omega
      obtain ⟨f, rfl⟩ : ∃ f', f = f' + 1 := ⟨f - 1, by omega⟩
      have hstep : rowP l s many (f + 1) L a' = match nextP l s a' with
        | .error c => .error c
        | .ok r =>
          match oneP s r.1 L r.2 with
          | .error c => .error c
          | .ok q => if q.1.1 ≤ many - L.length then rowP l s many f (L ++ List.replicate q.1.1 q.1.2) q.2 else .error 2 := by
        simp only [rowP]; rw [if_pos hc]
      have c0 := (hP.upd hU (by simp; omega)).cell 0 rfl
      rcases nextP_cases l s a' hRd.2 with ⟨x, a1, hx, ha1, _, hn⟩ | ⟨c, _, hn⟩
      · rw [hn] at hstep
        have HN := Lib.hid (bnext_ok hRd hs (hD0.upd hU) hn)
        have HROW := Lib.hid (hrow.trans hstep)
        clear hrow hstep hn
        have HONE := Lib.hid (oneP_cases s x L a1 ha1 (by omega) h15)
        go_wp2_with fail
        refine HN.out.mono ?_
        rintro e w4 ⟨rfl, hR4, hU4⟩
        have hUw4 := hU.then hU4
        have hRow4 := hRow.upd hU4 (fun k hk hm => by have := hfr k hk; simp at hm; omega)
        have c4 := (hP.upd hUw4 (by simp; omega)).cell 0 rfl
        have hvb : (Value.slice va L.length vc).ownBlock ≠ some b := fun h => by have := hfr b h; omega
        rcases HONE.out with ⟨n, k, a2, hn1, hn2, hk15, ha2, hone⟩ | ⟨c, _, hone⟩
        · have hrow2 := HROW.out
          rw [hone] at hrow2
          have HROW2 := Lib.hid hrow2
          have HONE2 := Lib.hid hone
          clear hone hrow2 HROW HONE
          go_upto_if 17 with fail
          go_cut [7, 8, 18, 19, 20, 21, 22, 23, 24] (fun s7 s8 s18 s19 s20 s21 s22 s23 s24 wx => s7 = .int .i64 (n : Nat) ∧ s8 = .int .i64 (k : Nat) ∧ RdAt wx b 123 s a2 false ∧ Upd [b] w4 wx)
          case first =>
            by_cases hx15 : 15 < x
            · have hxz : decide ((15 : Int) < (x : Int)) = true := decide_eq_true (by omega)
              have ha := again_any b x _ L w4 s a1 hR4 hs hRow4 hvb (by omega) h15 (by omega)
              have hone' : againP s x L a1 = .ok ((n, k), a2) := by rw [← HONE2.out]; unfold oneP; rw [if_pos hx15]
              rw [hone'] at ha
              have HA := Lib.hid ha
              clear ha hone'
              go_wp2_with fail
              refine HA.out.mono ?_
              rintro e w5 ⟨rfl, hR5, hU5⟩
              go_wp2_with fail
              go_meet
              exact ⟨rfl, rfl, hR5, hU5⟩
            · have hxz : decide ((15 : Int) < (x : Int)) = false := decide_eq_false (by omega)
              have hone' : oneP s x L a1 = .ok ((1, x), a1) := by unfold oneP; rw [if_neg hx15]
              rw [HONE2.out] at hone'
              cases hone'
              go_wp2
              go_meet
              exact ⟨rfl, rfl, hR4, .refl _ _⟩
          case rest =>
            obtain ⟨rfl, rfl, hR5, hU5⟩ := hcut
            have hU05 := hUw4.then hU5
            have hRow5 := hRow4.upd hU5 (fun k hk hm => by have := hfr k hk; simp at hm; omega)
            clear HN hRow hRow4 hU4 hU hR4 hRd hUw4 hU5 c4 c0
            by_cases hfit : n ≤ many - L.length
            · have hfz : decide ((n : Int) ≤ (many : Int) - (L.length : Int)) = true := decide_eq_true (by omega)
              have hE := HROW2.out
              rw [if_pos hfit] at hE
              have HE := Lib.hid hE
              clear hE
              go_wp2_with fail
              refine (must_yes _).mono ?_
              rintro e w6 ⟨rfl, rfl⟩
              go_wp2
              go_loopg [6, 33] n (fun g s6 s33 wx => ∃ j, j ≤ n ∧ g = n - j ∧ s33 = .int .i64 (j : Nat) ∧ RowRel w0 b s (L ++ List.replicate j k) s6 a2 wx)
              case atStart => exact ⟨0, by omega, rfl, rfl, by simpa using hRow5, hR5, hU05, hfr, by simpa using h15⟩
              case round =>
                obtain ⟨j, hjn, rfl, rfl, hRow6, hR6, hU6, hfr6, h156⟩ := hrel
                clear hRow5 hR5 hU05 hfr
                by_cases hcj : j < n
                · have hcz2 : (j : Int) < (n : Int) := by omega
                  have hL6 : (L ++ List.replicate j k).length ≤ 2000 := by simp; omega
                  have hsn := Lib.hid (show L ++ List.replicate (j + 1) k = (L ++ List.replicate j k) ++ [k] by rw [List.replicate_succ', List.append_assoc])
                  generalize L ++ List.replicate j k = M at *
                  go_wp2_with (at_builtin; refine wpList_app _ rfl _ _ 55 rfl 3 i0 _ 1 8 Tryz.underlying55 hi0 hz0 hz1 hz2 rfl (by omega) _ M.length _ rfl (hRow6.alloc _) ⟨wr.heap.size, 0, none⟩ 1 1 [_] rfl rfl (World.news_of_block (cs := #[_]) (t := 3) (fr := (0, 0)) (heap_alloc_new _ _)) (by simp [Value.oneCell']) (by unfold maxLen; omega) (by omega) ?_)
                  intro v2 w7 hR7 hU7 hT7
                  go_wp2
                  go_roundg (n - (j + 1))
                  case measure => omega
                  case rel =>
                    refine ⟨j + 1, by omega, rfl, by go_num, ?_, (hR6.upd ((Upd.refl [] _).alloc _) (by simp)).upd hU7 ?_, (hU6.alloc _).trans hU7 ?_, ?_, ?_⟩
                    · rw [hsn.out, List.length_append, show i64s (M ++ [k]) = i64s M ++ [.int .i64 (k : Int)] by simp [i64s]]
                      exact hR7
                    · intro hm
                      have := hfr6 b (by simpa using hm)
                      omega
                    · intro q hq; right; exact hfr6 q (by simpa using hq)
                    · intro q hq
                      rcases hT7 with h | ⟨g, h1, h2⟩
                      · exact hfr6 q (by rw [← h]; exact hq)
                      · rw [h1] at hq; simp at hq h2; have := hU6.size; omega
                    · rw [hsn.out]
                      intro q hq
                      rcases List.mem_append.1 hq with h | h
                      · exact h156 q h
                      · simp at h; omega
                · have hcz2 : ¬ (j : Int) < (n : Int) := by omega
                  have hj : j = n := by omega
                  subst hj
                  go_wp2
                  go_roundg (many - (L ++ List.replicate j k).length)
                  case measure => simp; omega
                  case rel =>
                    refine ⟨L ++ List.replicate j k, f, a2, by simp; omega, rfl, by simp; omega, HE.out, hRow6, hR6, hU6, hfr6, h156⟩
            · have hfz : decide ((n : Int) ≤ (many : Int) - (L.length : Int)) = false := decide_eq_false (by omega)
              have hE := HROW2.out
              rw [if_neg hfit] at hE
              have HE := Lib.hid hE
              clear hE
              go_wp2_with fail
              refine (must_no _).mono ?_
              rintro e w6 ⟨rfl, rfl⟩
              go_wp2
              rw [HE.out]
              exact ⟨rfl, rfl, hU0b'.out.then hU05⟩
        · have hrow2 := HROW.out
          rw [hone] at hrow2
          have HE := Lib.hid hrow2
          have hx15 : 15 < x := by
            apply Classical.byContradiction
            intro h
            unfold oneP at hone
            rw [if_neg h] at hone
            cases hone
          have hxz : (15 : Int) < (x : Int) := by omega
          have ha := again_any b x _ L w4 s a1 hR4 hs hRow4 hvb (by omega) h15 (by omega)
          have hone' : againP s x L a1 = .error c := by rw [← hone]; unfold oneP; rw [if_pos hx15]
          rw [hone'] at ha
          have HA := Lib.hid ha
          clear ha hone hone' hrow2 HROW HONE
          go_wp2_with fail
          refine HA.out.mono ?_
          rintro e w5 ⟨rfl, hU5⟩
          go_wp2
          rw [HE.out]
          exact ⟨rfl, rfl, hU0b'.out.then (hUw4.then hU5)⟩
      · rw [hn] at hstep
        have HN := Lib.hid (bnext_err hRd hs (hD0.upd hU) hn)
        have HE := Lib.hid (hrow.trans hstep)
        clear hrow hstep hn
        generalize L.length = N at *
        go_wp2_with fail
        refine HN.out.mono ?_
        rintro e w4 ⟨rfl, hU4⟩
        go_wp2
        rw [HE.out]
        exact ⟨rfl, rfl, hU0b'.out.then (hU.then hU4)⟩
    · have hcz : ¬ (L.length : Int) < (many : Int) := by omega
      rw [rowP_end hc] at hrow
      have HE := Lib.hid hrow
      clear hrow
      go_wp2
      go_returns
      rw [HE.out]
      exact ⟨_, rfl, hRow, hRd, hU0b'.out.then hU, fun k hk => by have := hfr k hk; omega⟩
end Go.Proofs.YtdehkaknbmbieaaGreat
