/- Package inflate: the errors' numbers: plain. -/
import Derived.Test.YtdehkaknbmbieaaGreatQBR
import Derived.Test.YtdehkaknbmbieaaGreatQBN
namespace Go.Proofs.YtdehkaknbmbieaaGreat
set_option linter.unusedVariables false
set_option linter.unusedSimpArgs false
set_option linter.unusedSectionVars false
open Go.RowKit
set_option linter.unusedVariables false

def Er {α : Type} (r : Except Nat α) : Prop := ∀ c, r = .error c → 2 ≤ c ∧ c ≤ 4
theorem Er.ok {α : Type} {v : α} : Er (.ok v : Except Nat α) := fun c h => by cases h
theorem Er.error {α : Type} {k : Nat} (h : 2 ≤ k ∧ k ≤ 4) : Er (.error k : Except Nat α) := fun c e => by cases e; exact h
theorem Er.bind {α β : Type} {x : Except Nat α} {f : α → Except Nat β} (hx : Er x) (hf : ∀ v, x = .ok v → Er (f v)) : Er (x >>= f) := by
  intro c e
  cases hc : x with
  | error k => rw [hc] at e; cases e; exact hx _ hc
  | ok v => rw [hc] at e; exact hf v hc c e
theorem Er.map {α β : Type} {x : Except Nat α} {f : α → β} (hx : Er x) : Er (x.map f) := by
  intro c e
  cases hc : x with
  | error k => rw [hc] at e; cases e; exact hx _ hc
  | ok v => rw [hc] at e; cases e
theorem takeP_er {s : ByteArray} {a n : Nat} : Er (takeP s a n) := by
  unfold takeP; split
  · exact Er.ok
  · exact Er.error (by omega)
theorem nextP_er {l : List Int} {s : ByteArray} {a : Nat} : Er (nextP l s a) := by
  unfold nextP; split
  · exact Er.error (by omega)
  · split
    · exact Er.ok
    · exact Er.error (by omega)
    · exact Er.error (by omega)
theorem oneP_er {s : ByteArray} {k : Nat} {L : List Nat} {a : Nat} : Er (oneP s k L a) := by
  unfold oneP; split
  · unfold againP; split
    · split
      · exact Er.error (by omega)
      · exact takeP_er.map
    · split
      · exact takeP_er.map
      · exact takeP_er.map
  · exact Er.ok
theorem rowP_er {l : List Int} {s : ByteArray} {many : Nat} : ∀ (f : Nat) (L : List Nat) (a : Nat), Er (rowP l s many f L a) := by
  intro f
  induction f with
  | zero => intro L a; exact Er.ok
  | succ f ih =>
    intro L a
    by_cases hc : L.length < many
    · rw [rowP_bind _ _ _ _ _ _ hc]
      refine nextP_er.bind fun r _ => oneP_er.bind fun q _ => ?_
      split
      · exact ih _ _
      · exact Er.error (by omega)
    · rw [rowP_end hc]; exact Er.ok
theorem firstP_er {s : ByteArray} : ∀ (m i : Nat) (L : List Nat) (a : Nat), Er (firstP s m i L a) := by
  intro m
  induction m with
  | zero => intro i L a; exact Er.ok
  | succ m ih => intro i L a; rw [firstP_bind]; exact takeP_er.bind fun r _ => ih _ _ _
theorem tablesP_er {s : ByteArray} {a : Nat} : Er (tablesP s a) := by
  unfold tablesP
  refine takeP_er.bind fun r1 _ => takeP_er.bind fun r2 _ => takeP_er.bind fun r3 _ => ?_
  unfold tabFirst; split
  · refine (firstP_er _ _ _ _).bind fun r4 _ => ?_
    unfold tabRow; split
    · refine (rowP_er _ _ _).bind fun r5 _ => ?_
      unfold tabEnd; split
      · split
        · exact Er.ok
        · exact Er.error (by omega)
      · exact Er.error (by omega)
    · exact Er.error (by omega)
  · exact Er.error (by omega)
end Go.Proofs.YtdehkaknbmbieaaGreat
namespace Go.Proofs.YtdehkaknbmbieaaGreat
set_option linter.unusedVariables false
set_option linter.unusedSimpArgs false
set_option linter.unusedSectionVars false
open Go.RowKit
set_option linter.unusedVariables false

set_option maxHeartbeats 1600000 in
theorem ralign_read (b : Nat) (w : World) (s : ByteArray) (a : Nat) (bad : Bool) (hR : RdAt w b 67 s a bad) (hs : s.size ≤ 1099511627776) :
    Calls Tryz.prog 58 #[.pointer (some ⟨b, 0, none⟩)] w
      (RdPost w b 67 s (.tuple #[]) (alTo a bad) bad) := by
  cases bad with
  | true =>
    have h2 := hR.1.cell 2 rfl
    go_enter Tryz.func58, Tryz.ntmps58
    go_wp2
    refine wp_loop_rounds 1 ?_
    rw [rounds_succ]
    go_wp2
    go_returns
    exact ⟨rfl, hR, .refl _ _⟩
  | false =>
    have hal : alTo a false = 8 * ((a + 7) / 8) := rfl
    have hle := hR.2
    rw [hal]
    go_enter Tryz.func58, Tryz.ntmps58
    go_wp2
    go_loopg [] (8 * ((a + 7) / 8) - a) (fun g wr => ∃ j, a + j ≤ 8 * ((a + 7) / 8) ∧ g = 8 * ((a + 7) / 8) - a - j ∧ RdRel w b 67 s (a + j) wr)
    case atStart => exact ⟨0, by omega, rfl, hR, .refl _ _⟩
    case round =>
      obtain ⟨j, hj, rfl, hRr, hU⟩ := hrel
      have k1 := hRr.1.cell 1 rfl
      have k2 := hRr.1.cell 2 rfl
      have g1 := hRr.1.frz 1
      obtain ⟨c, hc⟩ : ∃ c, c = a + j := ⟨_, rfl⟩
      rw [← hc] at k1
      have HC := Lib.hid hc
      clear hc
      by_cases hm : (a + j) % 8 = 0
      · have hcz : (c : Int) % 8 = 0 := by have := HC.out; omega
        have hfin : a + j = 8 * ((a + 7) / 8) := by omega
        rw [hfin] at hRr
        have hb2 : c ≤ 8796093022208 := by have := HC.out; omega
        clear hm hfin hj
        go_wp2
        go_returns
        exact ⟨rfl, hRr, hU⟩
      · have hcz : ((c : Int) % 8 == 0) = false := by simp; have := HC.out; omega
        have hcz2 : ((c : Int) % 8 != 0) = true := by simp; have := HC.out; omega
        have hb2 : c ≤ 8796093022208 := by have := HC.out; omega
        go_wp2
        go_roundg (8 * ((a + 7) / 8) - a - (j + 1))
        case measure => omega
        case rel =>
          refine ⟨j + 1, by omega, rfl, ?_, hU.setCell (.inl (by simp)) _⟩
          have e : (c : Int) + 1 = ((a + (j + 1) : Nat) : Int) := by have := HC.out; omega
          rw [e]
          exact ⟨hRr.1.set 1 _, by omega⟩

set_option maxRecDepth 100000 in
set_option maxHeartbeats 3200000 in
theorem rtext_read (b : Nat) (n : Int) (w : World) (s : ByteArray) (a : Nat) (bad : Bool) (hR : RdAt w b 67 s a bad) (hs : s.size ≤ 1099511627776) :
    Calls Tryz.prog 60 #[.pointer (some ⟨b, 0, none⟩), .int .i64 n] w
      (RdPost w b 67 s (.string (txStr s a bad n)) (txTo s a bad n) (txBad s a bad n)) := by
  have HA := Lib.hid (ralign_read b w s a bad hR hs)
  have hal := alTo_le s a bad hR.2
  cases bad with
  | true =>
    have e1 : txBad s a true n = true := rfl
    have e2 : txStr s a true n = ⟨#[]⟩ := rfl
    have e3 : txTo s a true n = alTo a true := rfl
    rw [e1, e2, e3]
    generalize alTo a true = a1 at *
    go_enter Tryz.func60, Tryz.ntmps60
    go_wp2_with fail
    refine HA.out.mono ?_
    rintro e w' ⟨rfl, hR1, hU1⟩
    have k2 := hR1.1.cell 2 rfl
    have f2 := hR1.1.frz 2
    go_wp2
    go_quiet (fail)
    go_wp2
    go_returns
    exact ⟨rfl, ⟨(hR1.1.drewN _).set 2 _, hR1.2⟩, (hU1.drewN _).setCell (.inl (by simp)) _⟩
  | false =>
    have hq : (a + 7) / 8 ≤ s.size := by have := hR.2; omega
    have ha1 : alTo a false = 8 * ((a + 7) / 8) := rfl
    have HBD := Lib.hid (fun (h : txBad s a false n = true) => (show txStr s a false n = ⟨#[]⟩ ∧ txTo s a false n = alTo a false by unfold txStr txTo; rw [if_pos h, if_pos h]; exact ⟨rfl, rfl⟩))
    have HGD := Lib.hid (fun (h : txBad s a false n = false) => (show txStr s a false n = s.extract ((a + 7) / 8) ((a + 7) / 8 + n.toNat) ∧ txTo s a false n = 8 * ((a + 7) / 8) + 8 * n.toNat by unfold txStr txTo; rw [if_neg (by rw [h]; decide), if_neg (by rw [h]; decide)]; exact ⟨rfl, rfl⟩))
    have hTB : txBad s a false n = (decide (n < 0) || decide (((s.size - (a + 7) / 8 : Nat) : Int) < n)) := by simp [txBad]
    generalize (a + 7) / 8 = q at *
    have HQ := Lib.hid ha1
    clear ha1
    generalize alTo a false = a1 at *
    have hdv2 : ((a1 : Nat) : Int) / 8 = (q : Int) := by have := HQ.out; omega
    have ha1b : a1 ≤ 8796093022208 := by omega
    cases hb : txBad s a false n with
    | true =>
      obtain ⟨e1, e2⟩ := HBD.out hb
      rw [e1, e2]
      rw [hTB] at hb
      simp only [Bool.or_eq_true, decide_eq_true_eq] at hb
      clear e1 e2 hTB HBD HGD
      by_cases hn : n < 0
      · have d1 : decide (n < 0) = true := by simpa using hn
        clear hb
        go_enter Tryz.func60, Tryz.ntmps60
        go_wp2_with fail
        refine HA.out.mono ?_
        rintro e w' ⟨rfl, hR1, hU1⟩
        have k2 := hR1.1.cell 2 rfl
        have f2 := hR1.1.frz 2
        go_wp2
        go_quiet (fail)
        go_wp2
        go_returns
        exact ⟨rfl, ⟨(hR1.1.drewN _).set 2 _, hR1.2⟩, (hU1.drewN _).setCell (.inl (by simp)) _⟩
      · have d1 : decide (n < 0) = false := by simpa using hn
        have hn2 : (s.size : Int) - (q : Int) < n := by omega
        have d2 : decide ((s.size : Int) - (q : Int) < n) = true := by simpa using hn2
        clear hb
        go_enter Tryz.func60, Tryz.ntmps60
        go_wp2_with fail
        refine HA.out.mono ?_
        rintro e w' ⟨rfl, hR1, hU1⟩
        have k0 := hR1.1.cell 0 rfl
        have k1 := hR1.1.cell 1 rfl
        have k2 := hR1.1.cell 2 rfl
        have f2 := hR1.1.frz 2
        go_wp2
        go_quiet (fail)
        go_wp2
        go_returns
        exact ⟨rfl, ⟨(hR1.1.drewN _).set 2 _, hR1.2⟩, (hU1.drewN _).setCell (.inl (by simp)) _⟩
    | false =>
      obtain ⟨e1, e2⟩ := HGD.out hb
      rw [e1, e2]
      rw [hTB] at hb
      simp only [Bool.or_eq_false_iff, decide_eq_false_iff_not] at hb
      obtain ⟨hn0, hn1⟩ := hb
      obtain ⟨N, rfl⟩ : ∃ N : Nat, n = (N : Int) := ⟨n.toNat, by omega⟩
      have hN : q + N ≤ s.size := by omega
      have hNz : (q : Int) + (N : Int) ≤ (s.size : Int) := by omega
      rw [Int.toNat_natCast]
      have d1 : decide ((N : Int) < 0) = false := by simp
      have d2 : decide ((s.size : Int) - (q : Int) < (N : Int)) = false := by simp; omega
      clear e1 e2 hTB HBD HGD hn0 hn1
      go_enter Tryz.func60, Tryz.ntmps60
      go_wp2_with fail
      refine HA.out.mono ?_
      rintro e w' ⟨rfl, hR1, hU1⟩
      have k0 := hR1.1.cell 0 rfl
      have k1 := hR1.1.cell 1 rfl
      have k2 := hR1.1.cell 2 rfl
      have f1 := hR1.1.frz 1
      go_wp2
      go_quiet (fail)
      go_wp2
      go_quiet (fail)
      go_wp2
      go_returns
      have e : (a1 : Int) + 8 * (N : Int) = ((8 * q + 8 * N : Nat) : Int) := by have := HQ.out; omega
      rw [e]
      exact ⟨rfl, ⟨(hR1.1.drewN _).set 1 _, by omega⟩, (hU1.drewN _).setCell (.inl (by simp)) _⟩
end Go.Proofs.YtdehkaknbmbieaaGreat
namespace Go.Proofs.YtdehkaknbmbieaaGreat
set_option linter.unusedVariables false
set_option linter.unusedSimpArgs false
set_option linter.unusedSectionVars false
open Go.RowKit
set_option linter.unusedVariables false

/-- The document's state at block bx, its reader at br. -/
structure XAt (w : World) (bx br : Nat) (s : ByteArray) (why a : Nat) (O : ByteArray) (most : Nat) : Prop where
  blk : Blk w bx [.pointer (some ⟨br, 0, none⟩), .string O, .int .i64 (most : Nat), .int .i64 (why : Nat)] 69
  ne : bx ≠ br
  rd : ∃ bad, RdAt w br 67 s a bad ∧ (why = 0 → bad = false)
  le : a ≤ 8 * s.size
/-- What is told at last, where 'why' is known by now, and 'rest' is to come. -/
def Sp {α : Type} (TP : Except Nat α) (why : Nat) (rest : Except Nat α) : Prop := (why ≠ 0 ∧ TP = .error why) ∨ (why = 0 ∧ TP = rest)
def TakeRel (s : ByteArray) (why a n v why' a' : Nat) : Prop :=
  (why ≠ 0 ∧ v = 0 ∧ why' = why ∧ a' = a) ∨ (why = 0 ∧ takeP s a n = .ok (v, a') ∧ why' = 0) ∨ (why = 0 ∧ takeP s a n = .error 3 ∧ v = 0 ∧ why' = 3 ∧ a' = a)
def MustRel (why : Nat) (b : Bool) (why' : Nat) : Prop := (why ≠ 0 ∧ why' = why) ∨ (why = 0 ∧ b = true ∧ why' = 0) ∨ (why = 0 ∧ b = false ∧ why' = 2)
def NextRel (l : List Int) (s : ByteArray) (why a v why' a' : Nat) : Prop :=
  (why ≠ 0 ∧ v = 0 ∧ why' = why ∧ a' = a) ∨ (why = 0 ∧ nextP l s a = .ok (v, a') ∧ why' = 0) ∨ (why = 0 ∧ v = 0 ∧ why' ≠ 0 ∧ nextP l s a = .error why')
theorem Sp.take {α : Type} {TP : Except Nat α} {s : ByteArray} {why a n v why' a' : Nat} {f : Nat × Nat → Except Nat α} (h : Sp TP why (takeP s a n >>= f)) (ht : TakeRel s why a n v why' a') : Sp TP why' (f (v, a')) := by
  rcases h with ⟨h1, h2⟩ | ⟨h1, h2⟩
  · rcases ht with ⟨_, _, h3, _⟩ | ⟨h3, _⟩ | ⟨h3, _⟩
    · exact .inl ⟨by omega, by rw [h3]; exact h2⟩
    · omega
    · omega
  · rcases ht with ⟨h3, _⟩ | ⟨_, h3, h4⟩ | ⟨_, h3, _, h4, _⟩
    · omega
    · exact .inr ⟨h4, by rw [h2, h3]; rfl⟩
    · exact .inl ⟨by omega, by rw [h2, h3, h4]; rfl⟩
theorem Sp.next {α : Type} {TP : Except Nat α} {l : List Int} {s : ByteArray} {why a v why' a' : Nat} {f : Nat × Nat → Except Nat α} (h : Sp TP why (nextP l s a >>= f)) (ht : NextRel l s why a v why' a') : Sp TP why' (f (v, a')) := by
  rcases h with ⟨h1, h2⟩ | ⟨h1, h2⟩
  · rcases ht with ⟨_, _, h3, _⟩ | ⟨h3, _⟩ | ⟨h3, _⟩
    · exact .inl ⟨by omega, by rw [h3]; exact h2⟩
    · omega
    · omega
  · rcases ht with ⟨h3, _⟩ | ⟨_, h3, h4⟩ | ⟨_, _, h4, h3⟩
    · omega
    · exact .inr ⟨h4, by rw [h2, h3]; rfl⟩
    · exact .inl ⟨h4, by rw [h2, h3]; rfl⟩
theorem Sp.must {α : Type} {TP rest : Except Nat α} {why why' : Nat} {b : Bool} (h : Sp TP why (if b = true then rest else .error 2)) (ht : MustRel why b why') : Sp TP why' rest := by
  rcases h with ⟨h1, h2⟩ | ⟨h1, h2⟩
  · rcases ht with ⟨_, h3⟩ | ⟨h3, _⟩ | ⟨h3, _⟩
    · exact .inl ⟨by omega, by rw [h3]; exact h2⟩
    · omega
    · omega
  · rcases ht with ⟨h3, _⟩ | ⟨_, h3, h4⟩ | ⟨_, h3, h4⟩
    · omega
    · exact .inr ⟨h4, by rw [h2, if_pos h3]⟩
    · exact .inl ⟨by omega, by rw [h2, if_neg (by rw [h3]; simp), h4]⟩
theorem XAt.upd {w w' : World} {bx br : Nat} {s : ByteArray} {why a : Nat} {O : ByteArray} {most : Nat} {fp : List Nat} (h : XAt w bx br s why a O most) (hU : Upd fp w w') (h1 : bx ∉ fp) (h2 : br ∉ fp) : XAt w' bx br s why a O most := by
  obtain ⟨bad, hR, hb⟩ := h.rd
  exact ⟨h.blk.upd hU h1, h.ne, ⟨bad, hR.upd hU h2, hb⟩, h.le⟩
theorem XAt.setWhy {w : World} {bx br : Nat} {s : ByteArray} {why a : Nat} {O : ByteArray} {most : Nat} (h : XAt w bx br s why a O most) (c : Nat) (hc : c ≠ 0) : XAt (w.setCell ⟨bx, 3, none⟩ (.int .i64 (c : Nat))) bx br s c a O most := by
  obtain ⟨bad, hR, hb⟩ := h.rd
  exact ⟨h.blk.set 3 _, h.ne, ⟨bad, hR.upd ((Upd.refl [bx] w).setCell (.inl (by simp)) _) (by have := h.ne; simp; omega), fun h => by omega⟩, h.le⟩

set_option maxRecDepth 100000 in
set_option maxHeartbeats 1600000 in
theorem xtake_any (bx br n : Nat) (w : World) (s : ByteArray) (why a : Nat) (O : ByteArray) (most : Nat) (h : XAt w bx br s why a O most) (hs : s.size ≤ 1099511627776) (hn : n ≤ 32) :
    Calls Tryz.prog 27 #[.pointer (some ⟨bx, 0, none⟩), .int .i64 (n : Nat)] w fun e w' => ∃ v why' a', e = .returned (.int .i64 (v : Nat)) ∧ v < 2 ^ n ∧ XAt w' bx br s why' a' O most ∧ Upd [bx, br] w w' ∧ TakeRel s why a n v why' a' := by
  have c3 := h.blk.cell 3 rfl
  have c0 := h.blk.cell 0 rfl
  have hp : 0 < 2 ^ n := Nat.two_pow_pos n
  by_cases hw : why = 0
  · subst hw
    obtain ⟨bad, hR, hb⟩ := h.rd
    have hb := hb rfl
    subst hb
    have HB := Lib.hid (rrbits_any br (n : Nat) w s a false hR hs)
    have hne := h.ne
    have hle := h.le
    by_cases hc : a + n ≤ 8 * s.size
    · have e2 : rdBad s a false (n : Nat) = false := by simp [rdBad]; omega
      have e3 : rdTo s a false (n : Nat) = a + n := by unfold rdTo; rw [e2]; simp
      have e4 : rdNum s a false (n : Nat) = rdVal s a n := by unfold rdNum; rw [e2]; simp
      rw [e2, e3, e4] at HB
      have ht : takeP s a n = .ok (rdVal s a n, a + n) := by unfold takeP; rw [if_pos hc]
      have hbl := rdVal_lt s a n
      have hp32 : 2 ^ n ≤ 2 ^ 32 := Nat.pow_le_pow_right (by omega) hn
      have hv : rdVal s a n < 4294967296 := by omega
      have HT := Lib.hid ht
      have HV := Lib.hid hbl
      clear e2 e3 e4 ht hbl hp32 hp
      generalize rdVal s a n = v at *
      go_enter Tryz.func27, Tryz.ntmps27
      go_wp2_with fail
      refine HB.out.mono ?_
      rintro e w1 ⟨rfl, hR1, hU1⟩
      have hB1 := h.blk.upd hU1 (by simpa using hne)
      have d0 := hB1.cell 0 rfl
      have d2 := hR1.1.cell 2 rfl
      go_wp2
      go_returns
      exact ⟨v, 0, a + n, rfl, HV.out, ⟨hB1, hne, ⟨false, hR1, fun _ => rfl⟩, hc⟩, hU1.mono (by simp), .inr (.inl ⟨rfl, HT.out, rfl⟩)⟩
    · have e2 : rdBad s a false (n : Nat) = true := by simp [rdBad]; omega
      have e3 : rdTo s a false (n : Nat) = a := by unfold rdTo; rw [e2]; simp
      have e4 : rdNum s a false (n : Nat) = 0 := by unfold rdNum; rw [e2]; simp
      rw [e2, e3, e4] at HB
      have ht : takeP s a n = .error 3 := by unfold takeP; rw [if_neg hc]
      have HT := Lib.hid ht
      have HP := Lib.hid hp
      clear e2 e3 e4 ht hp
      go_enter Tryz.func27, Tryz.ntmps27
      go_wp2_with fail
      refine HB.out.mono ?_
      rintro e w1 ⟨rfl, hR1, hU1⟩
      have hB1 := h.blk.upd hU1 (by simpa using hne)
      have d0 := hB1.cell 0 rfl
      have d3 := hB1.cell 3 rfl
      have f3 := hB1.frz 3
      have d2 := hR1.1.cell 2 rfl
      go_wp2
      go_returns
      have hX : XAt w1 bx br s 1 a O most → XAt (w1.setCell ⟨bx, 3, none⟩ (.int .i64 (3 : Nat))) bx br s 3 a O most := fun h => h.setWhy 3 (by omega)
      refine ⟨0, 3, a, rfl, HP.out, ⟨hB1.set 3 _, hne, ⟨true, hR1.upd ((Upd.refl [bx] w1).setCell (.inl (by simp)) _) (by simp; omega), fun h => by omega⟩, h.le⟩, (hU1.mono (by simp)).setCell (.inl (by simp)) _, .inr (.inr ⟨rfl, HT.out, rfl, rfl, rfl⟩)⟩
  · have t1 : ((why : Int) != 0) = true := by simp; omega
    have t2 : (why != 0) = true := by simp; omega
    have HP := Lib.hid hp
    clear hp
    go_enter Tryz.func27, Tryz.ntmps27
    go_wp2
    go_returns
    exact ⟨0, why, a, rfl, HP.out, h, .refl _ _, .inl ⟨hw, rfl, rfl, rfl⟩⟩
theorem xmust_any (bx br : Nat) (b : Bool) (w : World) (s : ByteArray) (why a : Nat) (O : ByteArray) (most : Nat) (h : XAt w bx br s why a O most) :
    Calls Tryz.prog 59 #[.pointer (some ⟨bx, 0, none⟩), .bool b] w fun e w' => ∃ why', e = .returned (.tuple #[]) ∧ XAt w' bx br s why' a O most ∧ Upd [bx, br] w w' ∧ MustRel why b why' := by
  have c3 := h.blk.cell 3 rfl
  have f3 := h.blk.frz 3
  by_cases hw : why = 0
  · subst hw
    cases b with
    | true =>
      go_enter Tryz.func59, Tryz.ntmps59
      go_wp2
      go_returns
      exact ⟨0, rfl, h, .refl _ _, .inr (.inl ⟨rfl, rfl, rfl⟩)⟩
    | false =>
      go_enter Tryz.func59, Tryz.ntmps59
      go_wp2
      go_returns
      exact ⟨2, rfl, h.setWhy 2 (by omega), (Upd.refl _ _).setCell (.inl (by simp)) _, .inr (.inr ⟨rfl, rfl, rfl⟩)⟩
  · have t1 : ((why : Int) == 0) = false := by simp; omega
    have t2 : (why == 0) = false := by simp; omega
    go_enter Tryz.func59, Tryz.ntmps59
    go_wp2
    go_returns
    exact ⟨why, rfl, h, .refl _ _, .inl ⟨hw, rfl⟩⟩

set_option maxRecDepth 100000 in
set_option maxHeartbeats 1600000 in
theorem xnext_any (x : Option Addr) (cap bx br : Nat) (cv : Value) (l : List Int) (w : World) (s : ByteArray) (why a : Nat) (O : ByteArray) (most : Nat) (h : XAt w bx br s why a O most) (hs : s.size ≤ 1099511627776) (hI : IntsIn w x l.length l)
    (hx : ∀ b' off, x = some ⟨b', off, none⟩ → b' ∉ [br])
    (hC : why = 0 → kindOf l ≠ 3 ∧ kindOf l ≠ 0 ∧ ∃ g, cv = .slice (some ⟨g, 0, none⟩) l.length l.length ∧ g ≠ br ∧ Row w 53 1 (.slice (some ⟨g, 0, none⟩) l.length l.length) l.length (u32s (codes (nats l)))) :
    Calls Tryz.prog 63 #[.pointer (some ⟨bx, 0, none⟩), .slice x l.length cap, cv] w fun e w' => ∃ v why' a', e = .returned (.int .i64 (v : Nat)) ∧ (v < l.length ∨ v = 0) ∧ XAt w' bx br s why' a' O most ∧ Upd [bx, br] w w' ∧ NextRel l s why a v why' a' := by
  have c3 := h.blk.cell 3 rfl
  have c0 := h.blk.cell 0 rfl
  by_cases hw : why = 0
  · subst hw
    obtain ⟨bad, hR, hb⟩ := h.rd
    have hb := hb rfl
    subst hb
    obtain ⟨hk3, hk0, g, rfl, hg, hRow⟩ := hC rfl
    have HN := Lib.hid (rnext_any x cap g br l w s a false hI hRow hR hs hx hg hk3)
    have hne := h.ne
    have hP : Hid (nextP l s a = match nxt (nats l) s a false with
      | (some x, a', _) => .ok (x, a')
      | (none, _, true) => .error 3
      | (none, _, false) => .error 2) := Lib.hid (by
        unfold nextP
        rw [if_neg (by rintro (h | h); exact hk3 h; exact hk0 h)]
        rfl)
    have hF := fun x => @nxt_some (nats l) s a x
    have hL := fun x => @nxtF_lt (nats l) s 15 1 a 0 (by omega) x
    have e : nxt (nats l) s a false = nxtF (nats l) s 15 1 a 0 := rfl
    rw [← e] at hL
    clear e hC
    generalize nxt (nats l) s a false = rr at *
    obtain ⟨o, a', bad⟩ := rr
    simp only at hF hL
    cases o with
    | some y =>
      have hbd := hF y rfl
      have hlt := hL y rfl
      rw [length_nats] at hlt
      subst hbd
      have HP := Lib.hid (show nextP l s a = .ok (y, a') from hP.out)
      clear hP hF hL
      unfold nxtVal at HN
      simp only [Option.getD_some, Option.isSome_some] at HN
      go_enter Tryz.func63, Tryz.ntmps63
      go_wp2_with fail
      refine HN.out.mono ?_
      rintro e w1 ⟨rfl, hR1, hU1⟩
      have hB1 := h.blk.upd hU1 (by simpa using hne)
      have d0 := hB1.cell 0 rfl
      have d2 := hR1.1.cell 2 rfl
      go_wp2
      go_returns
      exact ⟨y, 0, a', rfl, .inl hlt, ⟨hB1, hne, ⟨false, hR1, fun _ => rfl⟩, hR1.2⟩, hU1.mono (by simp), .inr (.inl ⟨rfl, HP.out, rfl⟩)⟩
    | none =>
      unfold nxtVal at HN
      simp only [Option.getD_none, Option.isSome_none] at HN
      cases bad with
      | true =>
        have HP := Lib.hid (show nextP l s a = .error 3 from hP.out)
        clear hP hF hL
        go_enter Tryz.func63, Tryz.ntmps63
        go_wp2_with fail
        refine HN.out.mono ?_
        rintro e w1 ⟨rfl, hR1, hU1⟩
        have hB1 := h.blk.upd hU1 (by simpa using hne)
        have d0 := hB1.cell 0 rfl
        have d3 := hB1.cell 3 rfl
        have f3 := hB1.frz 3
        have d2 := hR1.1.cell 2 rfl
        go_wp2
        go_returns
        exact ⟨0, 3, a', rfl, .inr rfl, ⟨hB1.set 3 _, hne, ⟨true, hR1.upd ((Upd.refl [bx] w1).setCell (.inl (by simp)) _) (by simp; omega), fun h => by omega⟩, hR1.2⟩, (hU1.mono (by simp)).setCell (.inl (by simp)) _, .inr (.inr ⟨rfl, rfl, by omega, HP.out⟩)⟩
      | false =>
        have HP := Lib.hid (show nextP l s a = .error 2 from hP.out)
        clear hP hF hL
        go_enter Tryz.func63, Tryz.ntmps63
        go_wp2_with fail
        refine HN.out.mono ?_
        rintro e w1 ⟨rfl, hR1, hU1⟩
        have hB1 := h.blk.upd hU1 (by simpa using hne)
        have d0 := hB1.cell 0 rfl
        have d3 := hB1.cell 3 rfl
        have f3 := hB1.frz 3
        have d2 := hR1.1.cell 2 rfl
        go_wp2
        go_returns
        exact ⟨0, 2, a', rfl, .inr rfl, ⟨hB1.set 3 _, hne, ⟨false, hR1.upd ((Upd.refl [bx] w1).setCell (.inl (by simp)) _) (by simp; omega), fun h => by omega⟩, hR1.2⟩, (hU1.mono (by simp)).setCell (.inl (by simp)) _, .inr (.inr ⟨rfl, rfl, by omega, HP.out⟩)⟩
  · have t1 : ((why : Int) != 0) = true := by simp; omega
    have t2 : (why != 0) = true := by simp; omega
    go_enter Tryz.func63, Tryz.ntmps63
    go_wp2
    go_returns
    exact ⟨0, why, a, rfl, .inr rfl, h, .refl _ _, .inl ⟨hw, rfl, rfl, rfl⟩⟩
end Go.Proofs.YtdehkaknbmbieaaGreat
