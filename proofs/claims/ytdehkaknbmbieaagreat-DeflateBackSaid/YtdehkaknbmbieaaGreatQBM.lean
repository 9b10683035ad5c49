/- Package inflate: plain mathematics of its steps; the walks of take, must, next. -/
import Derived.WalkLawsBesides
import Derived.Test.YtdehkaknbmbieaaGreatQBL
namespace Go.Proofs.YtdehkaknbmbieaaGreat
set_option linter.unusedVariables false
set_option linter.unusedSimpArgs false
set_option linter.unusedSectionVars false
open Go.RowKit
set_option linter.unusedVariables false

/-- A number of n bits, and where it ends; else the error's number. -/
def takeP (s : ByteArray) (a n : Nat) : Except Nat (Nat × Nat) := if a + n ≤ 8 * s.size then .ok (rdVal s a n, a + n) else .error 3
/-- A symbol, by lengths. -/
def nextP (l : List Int) (s : ByteArray) (a : Nat) : Except Nat (Nat × Nat) :=
  if kindOf l = 3 ∨ kindOf l = 0 then .error 2 else
    match nxt (nats l) s a false with
    | (some x, a', _) => .ok (x, a')
    | (none, _, true) => .error 3
    | (none, _, false) => .error 2

theorem nxtF_some_fine (n : List Nat) (s : ByteArray) (f k a c : Nat) {x : Nat} (h : (nxtF n s f k a c).1 = some x) : (nxtF n s f k a c).2.2 = false := by
  induction f generalizing k a c with
  | zero => rfl
  | succ f ih =>
    by_cases h1 : a < 8 * s.size
    · cases hx : symAt n k (2 * c + rdVal s a 1) with
      | some y => rw [nxtF_some h1 hx]
      | none => rw [nxtF_none h1 hx] at h ⊢; exact ih _ _ _ h
    · rw [nxtF_end h1] at h; cases h
theorem nxt_some (n : List Nat) (s : ByteArray) (a : Nat) {x : Nat} (h : (nxt n s a false).1 = some x) : (nxt n s a false).2.2 = false := nxtF_some_fine n s 15 1 a 0 h

/-- Behind a step that reads: a value, or a panic. -/
def StepPost (w : World) (b : Nat) (s : ByteArray) (r : Except Nat (Value × Nat)) (e : Ending) (w' : World) : Prop :=
  match r with
  | .ok (v, a') => e = .returned v ∧ RdAt w' b 123 s a' false ∧ Upd [b] w w'
  | .error c => e = .panicked [{ v := .iface 35 (.int .i64 (c : Nat)), recovered := false }] ∧ Upd [b] w w'

set_option maxHeartbeats 1600000 in
theorem take_any (b n : Nat) (w : World) (s : ByteArray) (a : Nat) (hR : RdAt w b 123 s a false) (hs : s.size ≤ 1099511627776) (hn : n ≤ 32) :
    Calls Tryz.prog 77 #[.agg #[.pointer (some ⟨b, 0, none⟩)], .int .i64 (n : Nat)] w
      (StepPost w b s ((takeP s a n).map fun r => (.int .i64 (r.1 : Nat), r.2))) := by
  have hle := hR.2
  have HB := Lib.hid (fun w' (hU : Upd [] w w') => rbits_read b (n : Nat) w' s a false (hR.upd hU (by simp)) hs)
  have hblt := hR.1.lt
  by_cases hc : a + n ≤ 8 * s.size
  · have e2 : rdBad s a false (n : Nat) = false := by simp [rdBad]; omega
    have e3 : rdTo s a false (n : Nat) = a + n := by unfold rdTo; rw [e2]; simp
    have e4 : rdNum s a false (n : Nat) = rdVal s a n := by unfold rdNum; rw [e2]; simp
    rw [e2, e3, e4] at HB
    have ht : takeP s a n = .ok (rdVal s a n, a + n) := by unfold takeP; rw [if_pos hc]
    rw [ht]
    have hbl := rdVal_lt s a n
    have hp32 : 2 ^ n ≤ 2 ^ 32 := Nat.pow_le_pow_right (by omega) hn
    have hv : rdVal s a n < 4294967296 := by omega
    clear e2 e3 e4 ht hbl hp32
    generalize rdVal s a n = v at *
    go_enter Tryz.func77, Tryz.ntmps77
    go_wp2_with fail
    refine (HB.out _ ((Upd.refl [] w).alloc _)).mono ?_
    rintro e w1 ⟨rfl, hR1, hU1⟩
    have c1 : w1.cell? ⟨w.heap.size, 0, none⟩ = some (.pointer (some ⟨b, 0, none⟩)) := ((Blk.new w [.pointer (some ⟨b, 0, none⟩)] 82).upd hU1 (by simp; omega)).cell 0 rfl
    go_wp2_with fail
    refine (fine_any b w1 _ s _ false hR1).mono ?_
    rintro e w2 ⟨rfl, rfl⟩
    go_wp2
    go_returns
    exact ⟨rfl, hR1, (((Upd.refl [b] w).alloc _).then hU1)⟩
  · have e2 : rdBad s a false (n : Nat) = true := by simp [rdBad]; omega
    have e3 : rdTo s a false (n : Nat) = a := by unfold rdTo; rw [e2]; simp
    have e4 : rdNum s a false (n : Nat) = 0 := by unfold rdNum; rw [e2]; simp
    rw [e2, e3, e4] at HB
    have ht : takeP s a n = .error 3 := by unfold takeP; rw [if_neg hc]
    rw [ht]
    clear e2 e3 e4 ht
    go_enter Tryz.func77, Tryz.ntmps77
    go_wp2_with fail
    refine (HB.out _ ((Upd.refl [] w).alloc _)).mono ?_
    rintro e w1 ⟨rfl, hR1, hU1⟩
    have c1 : w1.cell? ⟨w.heap.size, 0, none⟩ = some (.pointer (some ⟨b, 0, none⟩)) := ((Blk.new w [.pointer (some ⟨b, 0, none⟩)] 82).upd hU1 (by simp; omega)).cell 0 rfl
    go_wp2_with fail
    refine (fine_any b w1 _ s _ true hR1).mono ?_
    rintro e w2 ⟨rfl, rfl⟩
    go_wp2
    exact ⟨rfl, rfl, (((Upd.refl [b] w).alloc _).then hU1)⟩

theorem must_yes (w : World) : Calls Tryz.prog 81 #[.bool true] w fun e w' => e = .returned (.tuple #[]) ∧ w = w' := by
  go_enter Tryz.func81, Tryz.ntmps81
  go_wp2
  go_returns
  exact ⟨rfl, rfl⟩
theorem must_no (w : World) : Calls Tryz.prog 81 #[.bool false] w fun e w' => e = .panicked [{ v := .iface 35 (.int .i64 2), recovered := false }] ∧ w = w' := by
  go_enter Tryz.func81, Tryz.ntmps81
  go_wp2
  exact ⟨rfl, rfl, rfl⟩

/-- A decoder for lengths: none, where they are none or over. -/
def DecFor (w : World) (dv : Value) (l : List Int) (b : Nat) : Prop :=
  (dv = .pointer none ∧ (kindOf l = 3 ∨ kindOf l = 0)) ∨ (kindOf l ≠ 3 ∧ kindOf l ≠ 0 ∧ ∃ d v, dv = .pointer (some ⟨d, 0, none⟩) ∧ DcAt w d v (nats l) ∧ d ≠ b ∧ v.ownBlock ≠ some b)
theorem DecFor.upd {w w' : World} {dv : Value} {l : List Int} {b : Nat} (h : DecFor w dv l b) (hU : Upd [b] w w') : DecFor w' dv l b := by
  rcases h with h | ⟨h1, h2, d, v, e, hD, h3, h4⟩
  · exact .inl h
  · exact .inr ⟨h1, h2, d, v, e, hD.upd hU (by simpa using h3) (fun k hk hm => by simp at hm; exact h4 (by rw [hk, hm])), h3, h4⟩

set_option maxHeartbeats 1600000 in
theorem bnext_any (b : Nat) (dv : Value) (l : List Int) (w : World) (s : ByteArray) (a : Nat) (hR : RdAt w b 123 s a false) (hs : s.size ≤ 1099511627776) (hD : DecFor w dv l b) :
    Calls Tryz.prog 111 #[.agg #[.pointer (some ⟨b, 0, none⟩)], dv] w
      (StepPost w b s ((nextP l s a).map fun r => (.int .i64 (r.1 : Nat), r.2))) := by
  have hblt := hR.1.lt
  have hU0 : Upd [] w (w.alloc (.cells #[.pointer (some ⟨b, 0, none⟩)] 82)) := (Upd.refl [] w).alloc _
  have hP := Blk.new w [.pointer (some ⟨b, 0, none⟩)] 82
  have hR0 := hR.upd hU0 (by simp)
  rcases hD with ⟨rfl, hk⟩ | ⟨hk3, hk0, d, v, rfl, hD, hdb, hvb⟩
  · have ht : nextP l s a = .error 2 := by unfold nextP; rw [if_pos hk]
    rw [ht]
    clear ht
    go_enter Tryz.func111, Tryz.ntmps111
    go_wp2_with fail
    refine (next_nil _ _).mono ?_
    rintro e w1 ⟨rfl, rfl⟩
    go_wp2_with fail
    refine (fine_any b _ _ s _ false hR0).mono ?_
    rintro e w2 ⟨rfl, rfl⟩
    go_wp2_with fail
    refine (must_no _).mono ?_
    rintro e w2 ⟨rfl, rfl⟩
    go_wp2
    exact ⟨rfl, rfl, hU0.mono (by simp)⟩
  · obtain ⟨hok, hps⟩ := kindOf_ok hk3
    have h300 : (nats l).length ≤ 300 := by rw [length_nats]; exact (okLens_spec hok).1
    have hNx := next_any d b v (nats l) _ s a false (hD.upd hU0 (by simp) (by simp)) hR0 hs hdb hvb hps h300
    have ht : nextP l s a = match nxt (nats l) s a false with
      | (some x, a', _) => .ok (x, a')
      | (none, _, true) => .error 3
      | (none, _, false) => .error 2 := by unfold nextP; rw [if_neg (by omega)]
    rw [ht]
    clear ht
    have hsb := fun x => @nxt_some (nats l) s a x
    generalize nxt (nats l) s a false = rr at *
    obtain ⟨o, a', bad'⟩ := rr
    cases o with
    | some x =>
      have e1 : nxtVal (some x, a', bad') = .tuple #[.int .i64 (x : Nat), .bool true] := rfl
      rw [e1] at hNx
      have hbf : bad' = false := hsb x rfl
      subst hbf
      have HN := Lib.hid hNx
      clear hNx e1 hsb
      go_enter Tryz.func111, Tryz.ntmps111
      go_wp2_with fail
      refine HN.out.mono ?_
      rintro e w1 ⟨rfl, hR1, hU1⟩
      have c1 := (hP.upd hU1 (by simp; omega)).cell 0 rfl
      go_wp2_with fail
      refine (fine_any b _ _ s _ false hR1).mono ?_
      rintro e w2 ⟨rfl, rfl⟩
      go_wp2_with fail
      refine (must_yes _).mono ?_
      rintro e w2 ⟨rfl, rfl⟩
      go_wp2
      go_returns
      exact ⟨rfl, hR1, (hU0.mono (by simp)).then hU1⟩
    | none =>
      have e1 : nxtVal (none, a', bad') = .tuple #[.int .i64 0, .bool false] := rfl
      rw [e1] at hNx
      have HN := Lib.hid hNx
      clear hNx e1
      cases bad' with
      | true =>
        go_enter Tryz.func111, Tryz.ntmps111
        go_wp2_with fail
        refine HN.out.mono ?_
        rintro e w1 ⟨rfl, hR1, hU1⟩
        have c1 := (hP.upd hU1 (by simp; omega)).cell 0 rfl
        go_wp2_with fail
        refine (fine_any b _ _ s _ true hR1).mono ?_
        rintro e w2 ⟨rfl, rfl⟩
        go_wp2
        exact ⟨rfl, rfl, (hU0.mono (by simp)).then hU1⟩
      | false =>
        go_enter Tryz.func111, Tryz.ntmps111
        go_wp2_with fail
        refine HN.out.mono ?_
        rintro e w1 ⟨rfl, hR1, hU1⟩
        have c1 := (hP.upd hU1 (by simp; omega)).cell 0 rfl
        go_wp2_with fail
        refine (fine_any b _ _ s _ false hR1).mono ?_
        rintro e w2 ⟨rfl, rfl⟩
        go_wp2_with fail
        refine (must_no _).mono ?_
        rintro e w2 ⟨rfl, rfl⟩
        go_wp2
        exact ⟨rfl, rfl, (hU0.mono (by simp)).then hU1⟩
theorem take_ok {b n : Nat} {w : World} {s : ByteArray} {a v a' : Nat} (hR : RdAt w b 123 s a false) (hs : s.size ≤ 1099511627776) (hn : n ≤ 32) (h : takeP s a n = .ok (v, a')) :
    Calls Tryz.prog 77 #[.agg #[.pointer (some ⟨b, 0, none⟩)], .int .i64 (n : Nat)] w fun e w' => e = .returned (.int .i64 (v : Nat)) ∧ RdAt w' b 123 s a' false ∧ Upd [b] w w' := by
  have hT := take_any b n w s a hR hs hn
  rw [h] at hT; exact hT
theorem take_err {b n : Nat} {w : World} {s : ByteArray} {a c : Nat} (hR : RdAt w b 123 s a false) (hs : s.size ≤ 1099511627776) (hn : n ≤ 32) (h : takeP s a n = .error c) :
    Calls Tryz.prog 77 #[.agg #[.pointer (some ⟨b, 0, none⟩)], .int .i64 (n : Nat)] w fun e w' => e = .panicked [{ v := .iface 35 (.int .i64 (c : Nat)), recovered := false }] ∧ Upd [b] w w' := by
  have hT := take_any b n w s a hR hs hn
  rw [h] at hT; exact hT
theorem bnext_ok {b : Nat} {dv : Value} {l : List Int} {w : World} {s : ByteArray} {a v a' : Nat} (hR : RdAt w b 123 s a false) (hs : s.size ≤ 1099511627776) (hD : DecFor w dv l b) (h : nextP l s a = .ok (v, a')) :
    Calls Tryz.prog 111 #[.agg #[.pointer (some ⟨b, 0, none⟩)], dv] w fun e w' => e = .returned (.int .i64 (v : Nat)) ∧ RdAt w' b 123 s a' false ∧ Upd [b] w w' := by
  have hT := bnext_any b dv l w s a hR hs hD
  rw [h] at hT; exact hT
theorem bnext_err {b : Nat} {dv : Value} {l : List Int} {w : World} {s : ByteArray} {a c : Nat} (hR : RdAt w b 123 s a false) (hs : s.size ≤ 1099511627776) (hD : DecFor w dv l b) (h : nextP l s a = .error c) :
    Calls Tryz.prog 111 #[.agg #[.pointer (some ⟨b, 0, none⟩)], dv] w fun e w' => e = .panicked [{ v := .iface 35 (.int .i64 (c : Nat)), recovered := false }] ∧ Upd [b] w w' := by
  have hT := bnext_any b dv l w s a hR hs hD
  rw [h] at hT; exact hT
end Go.Proofs.YtdehkaknbmbieaaGreat
namespace Go.Proofs.YtdehkaknbmbieaaGreat
set_option linter.unusedVariables false
set_option linter.unusedSimpArgs false
set_option linter.unusedSectionVars false
open Go.RowKit
set_option linter.unusedVariables false

/-- A symbol that says how often which length comes. -/
def againP (s : ByteArray) (sym : Nat) (L : List Nat) (a : Nat) : Except Nat ((Nat × Nat) × Nat) :=
  if sym = 16 then (if L = [] then .error 2 else (takeP s a 2).map fun r => ((3 + r.1, L.getLastD 0), r.2))
  else if sym = 17 then (takeP s a 3).map fun r => ((3 + r.1, 0), r.2)
  else (takeP s a 7).map fun r => ((11 + r.1, 0), r.2)
def pairVal (r : (Nat × Nat) × Nat) : Value × Nat := (.tuple #[.int .i64 (r.1.1 : Nat), .int .i64 (r.1.2 : Nat)], r.2)

theorem takeP_cases (s : ByteArray) (a n : Nat) : (∃ v, v < 2 ^ n ∧ a + n ≤ 8 * s.size ∧ takeP s a n = .ok (v, a + n)) ∨ takeP s a n = .error 3 := by
  unfold takeP
  by_cases h : a + n ≤ 8 * s.size
  · exact .inl ⟨_, rdVal_lt s a n, h, by rw [if_pos h]⟩
  · exact .inr (by rw [if_neg h])

set_option maxRecDepth 100000 in
set_option maxHeartbeats 3200000 in
theorem again_any (b sym : Nat) (v : Value) (L : List Nat) (w : World) (s : ByteArray) (a : Nat) (hR : RdAt w b 123 s a false) (hs : s.size ≤ 1099511627776)
    (hL : Row w 3 1 v L.length (i64s L)) (hb : v.ownBlock ≠ some b) (hlen : L.length ≤ 100000) (h15 : ∀ x ∈ L, x ≤ 15) (hsym : sym ≤ 18) :
    Calls Tryz.prog 137 #[.agg #[.pointer (some ⟨b, 0, none⟩)], .int .i64 (sym : Nat), v] w
      (StepPost w b s ((againP s sym L a).map pairVal)) := by
  have hblt := hR.1.lt
  have hU0 : Upd [] w (w.alloc (.cells #[.pointer (some ⟨b, 0, none⟩)] 82)) := (Upd.refl [] w).alloc _
  have hP := Blk.new w [.pointer (some ⟨b, 0, none⟩)] 82
  have hR0 := hR.upd hU0 (by simp)
  have hU0b : Upd [b] w (w.alloc (.cells #[.pointer (some ⟨b, 0, none⟩)] 82)) := hU0.mono (by simp)
  obtain ⟨va, vc, rfl⟩ := hL.form
  by_cases h16 : sym = 16
  · subst h16
    by_cases hL0 : L = []
    · subst hL0
      have hp : againP s 16 [] a = .error 2 := by simp [againP]
      rw [hp]
      clear hp
      go_enter Tryz.func137, Tryz.ntmps137
      go_wp2_with fail
      refine (must_no _).mono ?_
      rintro e w2 ⟨rfl, rfl⟩
      go_wp2
      exact ⟨rfl, rfl, hU0b⟩
    · have hpos : 0 < L.length := List.length_pos_iff.2 hL0
      have hpf : decide ((0 : Int) < (L.length : Int)) = true := by simp; omega
      have hpz : (0 : Int) < (L.length : Int) := by omega
      have hp : againP s 16 L a = (takeP s a 2).map fun r => ((3 + r.1, L.getLastD 0), r.2) := by simp [againP, hL0]
      rw [hp]
      clear hp hL0
      obtain ⟨g, vc', hve, hg1, hg2⟩ := hL.form' hpos
      cases hve
      obtain ⟨y, hy⟩ : ∃ y, L.getLastD 0 = y := ⟨_, rfl⟩
      have hyl : L[L.length - 1]? = some y := by
        rw [← hy, List.getLastD_eq_getLast?, List.getLast?_eq_getElem?, List.getElem?_eq_getElem (by omega)]; rfl
      rw [hy]
      have d0 := Row.cell (hL.alloc (.cells #[.pointer (some ⟨b, 0, none⟩)] 82)) (L.length - 1) (i64s_get _ _ _ hyl)
      have hgb : g ≠ b := fun e => hb (by rw [e]; rfl)
      have c0 := hP.cell 0 rfl
      obtain ⟨M, hM⟩ : ∃ M, L.length = M + 1 := ⟨L.length - 1, by omega⟩
      rw [hM] at d0 hL hpf hpz hlen ⊢
      rw [Nat.add_sub_cancel] at d0
      clear hy hyl hM hb
      have e1 : IntKind.i64.wrap (M : Int) = (M : Int) := IntWalk.i64_in _ (by omega)
      have hM0 : (0 : Int) ≤ (M : Int) := by omega
      rcases takeP_cases s a 2 with ⟨t, ht4, hta, ht⟩ | ht
      · have HT := Lib.hid (take_ok (hR0.upd (Upd.drew (Upd.refl [] _)) (by simp)) hs (by omega) ht)
        rw [ht]
        go_enter Tryz.func137, Tryz.ntmps137
        go_wp2_with fail
        refine (must_yes _).mono ?_
        rintro e w2 ⟨rfl, rfl⟩
        have e2 : IntKind.i64.wrap (3 + (t : Int)) = 3 + (t : Int) := IntWalk.i64_in _ (by omega)
        have hM1 : (M : Int) < (M : Int) + 1 := by omega
        go_wp2
        go_region_law ((go_simp; go_at_call 77; refine HT.out.mono ?_; rintro e w4 ⟨rfl, hR4, hU4⟩; have d4 := (hU4.at (b := g) (by simp; omega) (by simpa using hgb) M).trans d0))
        all_goals go_wp2
        all_goals go_returns
        all_goals exact ⟨by first | (simp [Act.put]; done) | (simp [pairVal]; done), hR4, hU0b.drew.then hU4⟩
      · have HT := Lib.hid (take_err (hR0.upd (Upd.drew (Upd.refl [] _)) (by simp)) hs (by omega) ht)
        rw [ht]
        go_enter Tryz.func137, Tryz.ntmps137
        go_wp2_with fail
        refine (must_yes _).mono ?_
        rintro e w2 ⟨rfl, rfl⟩
        have hM1 : (M : Int) < (M : Int) + 1 := by omega
        go_wp2
        refine wp_region_held_drew (S := fun w' => w'.cell? ⟨w.heap.size, 0, none⟩ = some (.pointer (some ⟨b, 0, none⟩)) ∧ w'.cell? ⟨g, M, none⟩ = some (.int .i64 (y : Nat))) (by kernel_rfl) ⟨c0, d0⟩ (fun hHeld => ?_)
        refine wpAnyH_take (i := 0) (v := ?v0) rfl (by kernel_rfl) (by kernel_rfl) (by kernel_rfl) (fun _ _ _ h => h) (Or.inl ⟨by rfl, ?hy0⟩) (by assumption) ?r0
        case hy0 => (intro w hSw; (try dsimp only at hSw); go_simp; try with_reducible rfl)
        try simp only [Act.put, List.setIfInBounds_toArray, List.set_cons_zero, List.set_cons_succ]
        refine wpAnyH_take (i := 3) (v := ?v3) rfl (by kernel_rfl) (by kernel_rfl) (by kernel_rfl) (fun _ _ _ h => h) (Or.inl ⟨by rfl, ?hy3⟩) (by assumption) ?r3
        case hy3 => (intro w hSw; (try dsimp only at hSw); go_simp; try with_reducible rfl)
        try simp only [Act.put, List.setIfInBounds_toArray, List.set_cons_zero, List.set_cons_succ]
        refine wpAnyH_take (i := 4) (v := ?v4) rfl (by kernel_rfl) (by kernel_rfl) (by kernel_rfl) (fun _ _ _ h => h) (Or.inl ⟨by rfl, ?hy4⟩) (by assumption) ?r4
        case hy4 => (intro w hSw; (try dsimp only at hSw); go_simp; try with_reducible rfl)
        try simp only [Act.put, List.setIfInBounds_toArray, List.set_cons_zero, List.set_cons_succ]
        refine wpAnyH_take (i := 5) (v := ?v5) rfl (by kernel_rfl) (by kernel_rfl) (by kernel_rfl) (fun _ _ _ h => h) (Or.inl ⟨by rfl, ?hy5⟩) (by assumption) ?r5
        case hy5 => (intro w hSw; (try dsimp only at hSw); go_simp; try with_reducible rfl)
        try simp only [Act.put, List.setIfInBounds_toArray, List.set_cons_zero, List.set_cons_succ]
        refine wpAnyH_take (i := 6) (v := ?v6) rfl (by kernel_rfl) (by kernel_rfl) (by kernel_rfl) (fun _ _ _ h => h) (Or.inl ⟨by rfl, ?hy6⟩) (by assumption) ?r6
        case hy6 => (intro w hSw; (try dsimp only at hSw); go_simp; try with_reducible rfl)
        try simp only [Act.put, List.setIfInBounds_toArray, List.set_cons_zero, List.set_cons_succ]
        refine wpAnyH_take (i := 7) (v := ?v7) rfl (by kernel_rfl) (by kernel_rfl) (by kernel_rfl) (fun _ _ _ h => h) (Or.inl ⟨by rfl, ?hy7⟩) (by assumption) ?r7
        case hy7 => (intro w hSw; (try dsimp only at hSw); go_simp; try with_reducible rfl)
        try simp only [Act.put, List.setIfInBounds_toArray, List.set_cons_zero, List.set_cons_succ]
        refine wpAnyH_take (i := 8) (v := ?v8) rfl (by kernel_rfl) (by kernel_rfl) (by kernel_rfl) (fun _ _ _ h => h) (Or.inl ⟨by rfl, ?hy8⟩) (by assumption) ?r8
        case hy8 => (intro w hSw; (try dsimp only at hSw); go_simp; try with_reducible rfl)
        try simp only [Act.put, List.setIfInBounds_toArray, List.set_cons_zero, List.set_cons_succ]
        refine wpAnyH_ready (rs := [1]) (by kernel_rfl) (by simp) ?_
        refine AllReadyH.cons rfl (fun K hK => ?_) AllReadyH.nil
        go_simp
        go_at_call 77
        refine HT.out.mono ?_
        rintro e w4 ⟨rfl, hU4⟩
        go_wp2
        exact ⟨rfl, rfl, hU0b.drew.then hU4⟩
  · have h16f : ((sym : Int) == 16) = false := by simp; omega
    by_cases h17 : sym = 17
    · subst h17
      have hp : againP s 17 L a = (takeP s a 3).map fun r => ((3 + r.1, 0), r.2) := by simp [againP]
      rw [hp]
      clear hp
      rcases takeP_cases s a 3 with ⟨t, ht4, hta, ht⟩ | ht
      · have HT := Lib.hid (take_ok hR0 hs (by omega) ht)
        rw [ht]
        go_enter Tryz.func137, Tryz.ntmps137
        go_wp2_with fail
        refine HT.out.mono ?_
        rintro e w4 ⟨rfl, hR4, hU4⟩
        go_wp2
        go_returns
        exact ⟨by first | (simp [Act.put]; done) | (simp [pairVal]; done), hR4, hU0b.then hU4⟩
      · have HT := Lib.hid (take_err hR0 hs (by omega) ht)
        rw [ht]
        go_enter Tryz.func137, Tryz.ntmps137
        go_wp2_with fail
        refine HT.out.mono ?_
        rintro e w4 ⟨rfl, hU4⟩
        go_wp2
        exact ⟨rfl, rfl, hU0b.then hU4⟩
    · have h17f : ((sym : Int) == 17) = false := by simp; omega
      have hp : againP s sym L a = (takeP s a 7).map fun r => ((11 + r.1, 0), r.2) := by unfold againP; rw [if_neg h16, if_neg h17]
      rw [hp]
      clear hp
      rcases takeP_cases s a 7 with ⟨t, ht4, hta, ht⟩ | ht
      · have HT := Lib.hid (take_ok hR0 hs (by omega) ht)
        rw [ht]
        go_enter Tryz.func137, Tryz.ntmps137
        go_wp2_with fail
        refine HT.out.mono ?_
        rintro e w4 ⟨rfl, hR4, hU4⟩
        go_wp2
        go_returns
        exact ⟨by first | (simp [Act.put]; done) | (simp [pairVal]; done), hR4, hU0b.then hU4⟩
      · have HT := Lib.hid (take_err hR0 hs (by omega) ht)
        rw [ht]
        go_enter Tryz.func137, Tryz.ntmps137
        go_wp2_with fail
        refine HT.out.mono ?_
        rintro e w4 ⟨rfl, hU4⟩
        go_wp2
        exact ⟨rfl, rfl, hU0b.then hU4⟩
end Go.Proofs.YtdehkaknbmbieaaGreat
