/- The walks of a symbol's reading: (*huff.Decoder).Next; and in plain mathematics. -/
import Derived.Test.YtdehkaknbmbieaaGreatQBM
import Derived.Test.YtdehkaknbmbieaaGreatQBN
import Derived.Test.YtdehkaknbmbieaaGreatQBB
import Derived.Test.YtdehkaknbmbieaaGreatQBC
import Derived.WalkLawsBesides
namespace Go.Proofs.YtdehkaknbmbieaaGreat
set_option linter.unusedVariables false
set_option linter.unusedSimpArgs false
set_option linter.unusedSectionVars false
open Go.RowKit
set_option linter.unusedVariables false

/-- A symbol from bit a on, k being the length that is to be looked at, c the code so far: the symbol, where it ends, whether the bits ended first. -/
def nxtF (n : List Nat) (s : ByteArray) : Nat → Nat → Nat → Nat → Option Nat × Nat × Bool
  | 0, _, a, _ => (none, a, false)
  | f + 1, k, a, c => if a < 8 * s.size then
      match symAt n k (2 * c + rdVal s a 1) with
      | some x => (some x, a + 1, false)
      | none => nxtF n s f (k + 1) (a + 1) (2 * c + rdVal s a 1)
    else (none, a, true)
def nxt (n : List Nat) (s : ByteArray) (a : Nat) (bad : Bool) : Option Nat × Nat × Bool := if bad then (none, a, true) else nxtF n s 15 1 a 0
theorem nxtF_end {n : List Nat} {s : ByteArray} {f k a c : Nat} (h : ¬ a < 8 * s.size) : nxtF n s (f + 1) k a c = (none, a, true) := by simp [nxtF, h]
theorem nxtF_some {n : List Nat} {s : ByteArray} {f k a c x : Nat} (h : a < 8 * s.size) (hx : symAt n k (2 * c + rdVal s a 1) = some x) : nxtF n s (f + 1) k a c = (some x, a + 1, false) := by simp [nxtF, h, hx]
theorem nxtF_none {n : List Nat} {s : ByteArray} {f k a c : Nat} (h : a < 8 * s.size) (hx : symAt n k (2 * c + rdVal s a 1) = none) : nxtF n s (f + 1) k a c = nxtF n s f (k + 1) (a + 1) (2 * c + rdVal s a 1) := by simp [nxtF, h, hx]
theorem nxtF_le (n : List Nat) (s : ByteArray) (f k a c : Nat) (h : a ≤ 8 * s.size) : a ≤ (nxtF n s f k a c).2.1 ∧ (nxtF n s f k a c).2.1 ≤ 8 * s.size ∧ (nxtF n s f k a c).2.1 ≤ a + f := by
  induction f generalizing k a c with
  | zero => exact ⟨Nat.le_refl _, h, Nat.le_refl _⟩
  | succ f ih =>
    by_cases h1 : a < 8 * s.size
    · cases hx : symAt n k (2 * c + rdVal s a 1) with
      | some x => rw [nxtF_some h1 hx]; exact ⟨by simp, by simp; omega, by simp⟩
      | none =>
        rw [nxtF_none h1 hx]
        have := ih (k + 1) (a + 1) (2 * c + rdVal s a 1) (by omega)
        omega
    · rw [nxtF_end h1]; exact ⟨by simp, h, by simp⟩
theorem i64_or_bit (c r : Nat) (hc : c ≤ 1073741824) (hr : r < 2) : bits BinOp.or IntKind.i64 ((2 * c : Nat) : Int) (r : Int) = ((2 * c + r : Nat) : Int) := by
  rw [bits_join .i64 63 (by decide) (fun n h0 h1 => by rw [IntWalk.i64_in n (by omega)]) 1 _ _ (by omega) (by omega) (by omega) (by omega) (by omega) (by omega)]
  simp
def nxtVal (r : Option Nat × Nat × Bool) : Value := .tuple #[.int .i64 ((r.1.getD 0 : Nat) : Int), .bool r.1.isSome]

theorem next_nil (b : Value) (w : World) :
    Calls Tryz.prog 134 #[.pointer none, b] w fun e w' => e = .returned (.tuple #[.int .i64 0, .bool false]) ∧ w = w' := by
  go_enter Tryz.func134, Tryz.ntmps134
  go_wp2
  go_returns
  exact ⟨rfl, rfl⟩

set_option maxRecDepth 100000 in
set_option maxHeartbeats 3200000 in
theorem next_any (d b : Nat) (v : Value) (n : List Nat) (w : World) (s : ByteArray) (a : Nat) (bad : Bool) (hD : DcAt w d v n) (hR : RdAt w b 123 s a bad) (hs : s.size ≤ 1099511627776)
    (hne : d ≠ b) (hvb : v.ownBlock ≠ some b) (hps : psum n 16 ≤ 32768) (hn : n.length ≤ 300) :
    Calls Tryz.prog 134 #[.pointer (some ⟨d, 0, none⟩), .pointer (some ⟨b, 0, none⟩)] w
      (RdPost w b 123 s (nxtVal (nxt n s a bad)) (nxt n s a bad).2.1 (nxt n s a bad).2.2) := by
  cases bad with
  | true =>
    have HB := Lib.hid (rbits_read b 1 w s a true hR hs)
    have e1 : nxt n s a true = (none, a, true) := rfl
    rw [e1]
    have e2 : rdBad s a true 1 = true := rfl
    have e3 : rdTo s a true 1 = a := rfl
    have e4 : rdNum s a true 1 = 0 := rfl
    rw [e2, e3, e4] at HB
    clear e1 e2 e3 e4
    go_enter Tryz.func134, Tryz.ntmps134
    go_wp2
    refine wp_loop_rounds 1 ?_
    rw [rounds_succ]
    go_wp2_with fail
    refine HB.out.mono ?_
    rintro e w1 ⟨rfl, hR1, hU1⟩
    go_wp2_with fail
    refine (fine_any b w1 _ s a true hR1).mono ?_
    rintro e w2 ⟨rfl, rfl⟩
    go_wp2
    go_returns
    exact ⟨rfl, hR1, hU1⟩
  | false =>
    have e1 : nxt n s a false = nxtF n s 15 1 a 0 := rfl
    rw [e1]
    have hpb := Lib.hid (fun k hk => fst_cnt n hps k hk)
    have hle := hR.2
    have hRel0 : RdRel w b 123 s (a + 0) w := ⟨hR, .refl _ _⟩
    have HD := Lib.hid (fun w' (hU : Upd [b] w w') => hD.upd hU (by simpa using hne) (fun k hk hm => hvb (by simp at hm; rw [hk, hm])))
    clear hps e1 hR hD hne hvb
    go_enter Tryz.func134, Tryz.ntmps134
    go_wp2
    go_loopg [6, 7, 8, 9] 15 (fun g s6 s7 s8 s9 wr => ∃ j c, j ≤ 15 ∧ g = 15 - j ∧ s9 = .int .i64 ((j + 1 : Nat) : Int) ∧ s6 = .int .i64 ((2 * c : Nat) : Int) ∧ s7 = .int .i64 (fst n (j + 1) : Nat) ∧ s8 = .int .i64 ((symsTo n (j + 1)).length : Nat) ∧ c < 2 ^ j ∧ fst n (j + 1) ≤ 2 * c ∧ a + j ≤ 8 * s.size ∧ nxtF n s 15 1 a 0 = nxtF n s (15 - j) (j + 1) (a + j) c ∧ RdRel w b 123 s (a + j) wr)
    case atStart => exact ⟨0, 0, by omega, rfl, rfl, rfl, rfl, by rw [symsTo_1]; rfl, by simp, by simp [fst, cnt], by omega, rfl, hRel0⟩
    case round =>
      obtain ⟨j, c, hj, rfl, rfl, rfl, rfl, rfl, hc2, hfc, haj, hnx, hRr, hU⟩ := hrel
      clear hRel0
      by_cases hc : j < 15
      · have hcz : (j : Int) + 1 ≤ 15 := by omega
        have hp15 : 2 ^ j ≤ 2 ^ 15 := Nat.pow_le_pow_right (by omega) (by omega)
        have HB := Lib.hid (rbits_read b 1 wr s (a + j) false hRr hs)
        by_cases hend : a + j < 8 * s.size
        · have e2 : rdBad s (a + j) false 1 = false := by simp [rdBad]; omega
          have e3 : rdTo s (a + j) false 1 = a + j + 1 := by unfold rdTo; rw [e2]; rfl
          have e4 : rdNum s (a + j) false 1 = rdVal s (a + j) 1 := by unfold rdNum; rw [e2]; rfl
          rw [e2, e3, e4] at HB
          have hbl := rdVal_lt s (a + j) 1
          have hfk := hpb.out (j + 1) (by omega)
          have hp16 : 2 ^ (j + 1) = 2 * 2 ^ j := by rw [Nat.pow_succ, Nat.mul_comm]
          have hor := i64_or_bit c (rdVal s (a + j) 1) (by omega) (by omega)
          have hsy1 := length_symsTo_le n (j + 1)
          have hsy2 : (j + 1) * n.length ≤ 15 * 300 := Nat.mul_le_mul (by omega) (by omega)
          have hsn := Lib.hid (length_symsTo_succ n (j + 1) (by omega))
          have hfn := Lib.hid (show fst n (j + 1 + 1) = 2 * (fst n (j + 1) + cnt n (j + 1)) by rfl)
          by_cases hlt : 2 * c + rdVal s (a + j) 1 < fst n (j + 1) + cnt n (j + 1)
          · have hsome : symAt n (j + 1) (2 * c + rdVal s (a + j) 1) = some ((idx n (j + 1) n.length).getD (2 * c + rdVal s (a + j) 1 - fst n (j + 1)) 0) := by
              unfold symAt; rw [if_pos ⟨by omega, hlt⟩]
            rw [show 15 - j = (14 - j) + 1 by omega, nxtF_some hend hsome] at hnx
            have HN := Lib.hid hnx
            have hget := syms_get n (j + 1) (2 * c + rdVal s (a + j) 1 - fst n (j + 1)) (by omega) (by omega) (by omega)
            generalize (idx n (j + 1) n.length).getD (2 * c + rdVal s (a + j) 1 - fst n (j + 1)) 0 = x at *
            obtain ⟨q, hq⟩ : ∃ q, 2 * c + rdVal s (a + j) 1 = fst n (j + 1) + q := ⟨2 * c + rdVal s (a + j) 1 - fst n (j + 1), by omega⟩
            rw [hq] at hor
            rw [show 2 * c + rdVal s (a + j) 1 - fst n (j + 1) = q by omega] at hget
            have hq2 : q < cnt n (j + 1) := by omega
            have hpos : 0 < (symsTo n 16).length := by have := (List.getElem?_eq_some_iff.1 hget).1; omega
            have hc2b : 2 * c ≤ 65536 := by omega
            have hqi := (List.getElem?_eq_some_iff.1 hget).1
            have hF16 : fst n (j + 1) ≤ 65536 := by omega
            have hL16 : (symsTo n (j + 1)).length ≤ 4500 := by omega
            have hq16 : q ≤ 65536 := by omega
            clear hnx hsome e2 e3 e4 hlt hq hsy2 hp16 hc2 hfc
            generalize 2 * c = c2 at *
            rw [Int.natCast_add] at hor
            generalize rdVal s (a + j) 1 = r at *
            go_wp2_with fail
            refine HB.out.mono ?_
            rintro e w1 ⟨rfl, hR1, hU1⟩
            go_wp2_with fail
            refine (fine_any b w1 _ s _ false hR1).mono ?_
            rintro e w2 ⟨rfl, rfl⟩
            have hD := HD.out _ (hU.then hU1)
            obtain ⟨g, vc, rfl, hg1, hg2⟩ := hD.row.form' hpos
            have d1 := hD.blk.cell (j + 1) (v := .int .i64 (cnt n (j + 1) : Nat)) (by rw [List.getElem?_append_left (by rw [length_i64s, length_cl]; omega), i64s_get _ _ _ (cl_get n (j + 1) (by omega))])
            have d2 := hD.blk.cell 16 (v := .slice (some ⟨g, 0, none⟩) (symsTo n 16).length vc) (by rw [List.getElem?_append_right (by rw [length_i64s, length_cl]; omega), length_i64s, length_cl]; rfl)
            have d3 := Row.cell hD.row _ (i64s_get _ _ _ hget)
            generalize (symsTo n (j + 1)).length = L at *
            generalize (symsTo n 16).length = L16 at *
            generalize fst n (j + 1) = F at *
            generalize cnt n (j + 1) = C at *
            have d4 : w1.cell? ⟨g, L + (F + q) - F, none⟩ = some (.int .i64 (x : Nat)) := by rw [show L + (F + q) - F = L + q by omega]; exact d3
            clear d3
            go_wp2
            go_returns
            rw [HN.out]
            exact ⟨rfl, hR1, hU.then hU1⟩
          · have hnone : symAt n (j + 1) (2 * c + rdVal s (a + j) 1) = none := by
              unfold symAt; rw [if_neg (by omega)]
            rw [show 15 - j = (14 - j) + 1 by omega, nxtF_none hend hnone] at hnx
            have hge : fst n (j + 1) + cnt n (j + 1) ≤ 2 * c + rdVal s (a + j) 1 := by omega
            obtain ⟨c', hc'⟩ : ∃ c', c' = 2 * c + rdVal s (a + j) 1 := ⟨_, rfl⟩
            rw [← hc'] at hnx hge hor
            have hc2' : c' < 2 ^ (j + 1) := by omega
            have hc16 : c' ≤ 65536 := by omega
            have hlt' : decide ((c' : Int) - (fst n (j + 1) : Int) < (cnt n (j + 1) : Int)) = false := by simp; omega
            have HN := Lib.hid hnx
            have HC2 := Lib.hid hc2'
            have hF16 : fst n (j + 1) + cnt n (j + 1) ≤ 65536 := by omega
            have hL16 : (symsTo n (j + 1)).length ≤ 4500 := by omega
            have hc2b : 2 * c ≤ 65536 := by omega
            clear hnx hnone e2 e3 e4 hlt hsy2 hp16 hc2 hfc hc' hc2'
            generalize 2 * c = c2 at *
            generalize rdVal s (a + j) 1 = r at *
            go_wp2_with fail
            refine HB.out.mono ?_
            rintro e w1 ⟨rfl, hR1, hU1⟩
            go_wp2_with fail
            refine (fine_any b w1 _ s _ false hR1).mono ?_
            rintro e w2 ⟨rfl, rfl⟩
            have hD := HD.out _ (hU.then hU1)
            have d1 := hD.blk.cell (j + 1) (v := .int .i64 (cnt n (j + 1) : Nat)) (by rw [List.getElem?_append_left (by rw [length_i64s, length_cl]; omega), i64s_get _ _ _ (cl_get n (j + 1) (by omega))])
            generalize (symsTo n (j + 1)).length = L at *
            generalize fst n (j + 1) = F at *
            generalize cnt n (j + 1) = C at *
            go_wp2
            go_roundg (15 - (j + 1))
            case measure => omega
            case rel =>
              refine ⟨j + 1, c', by omega, rfl, by go_num, by go_num, by rw [hfn.out]; go_num, by rw [hsn.out]; go_num, HC2.out, by rw [hfn.out]; omega, by omega, ?_, ?_⟩
              · rw [HN.out, show 15 - (j + 1) = 14 - j by omega, Nat.add_assoc a j 1]
              · rw [← Nat.add_assoc]; exact ⟨hR1, hU.then hU1⟩
        · have e2 : rdBad s (a + j) false 1 = true := by simp [rdBad]; omega
          have e3 : rdTo s (a + j) false 1 = a + j := by unfold rdTo; rw [e2]; rfl
          have e4 : rdNum s (a + j) false 1 = 0 := by unfold rdNum; rw [e2]; rfl
          rw [e2, e3, e4] at HB
          rw [show 15 - j = (14 - j) + 1 by omega, nxtF_end hend] at hnx
          rw [hnx]
          clear e2 e3 e4 hnx
          have hcb : 2 * c ≤ 65536 := by omega
          generalize 2 * c = c2 at *
          generalize fst n (j + 1) = F at *
          generalize (symsTo n (j + 1)).length = L at *
          go_wp2_with fail
          refine HB.out.mono ?_
          rintro e w1 ⟨rfl, hR1, hU1⟩
          go_wp2_with fail
          refine (fine_any b w1 _ s _ true hR1).mono ?_
          rintro e w2 ⟨rfl, rfl⟩
          go_wp2
          go_returns
          exact ⟨rfl, hR1, hU.then hU1⟩
      · have hj15 : j = 15 := by omega
        have hcz : ¬ (j : Int) + 1 ≤ 15 := by omega
        subst hj15
        have HN := Lib.hid (show nxtF n s 15 1 a 0 = (none, a + 15, false) from hnx)
        clear hnx
        generalize fst n (15 + 1) = F at *
        generalize (symsTo n (15 + 1)).length = L at *
        generalize 2 * c = c2 at *
        go_wp2
        go_returns
        rw [HN.out]
        exact ⟨rfl, hRr, hU⟩
end Go.Proofs.YtdehkaknbmbieaaGreat
namespace Go.Proofs.YtdehkaknbmbieaaGreat
set_option linter.unusedVariables false
set_option linter.unusedSimpArgs false
set_option linter.unusedSectionVars false
open Go.RowKit
set_option linter.unusedVariables false

theorem idx_prefix (n : List Nat) (k i m : Nat) : ∃ r, idx n k (i + m) = idx n k i ++ r := by
  induction m with
  | zero => exact ⟨[], by simp⟩
  | succ m ih =>
    obtain ⟨r, hr⟩ := ih
    exact ⟨r ++ if n.getD (i + m) 0 = k then [i + m] else [], by rw [← Nat.add_assoc, idx_succ, hr, List.append_assoc]⟩
theorem symAt_code (n : List Nat) (i k : Nat) (h1 : 1 ≤ k) (hi : i < n.length) (hk : n.getD i 0 = k) : symAt n k (codeAt n i) = some i := by
  have hc : codeAt n i = fst n k + (n.take i).count k := by unfold codeAt; rw [if_neg (by omega), hk]
  have hlt := count_le_of n i k hi hk
  have hcn : cnt n k = n.count k := by unfold cnt; rw [if_neg (by omega)]
  unfold symAt
  rw [hc, if_pos ⟨by omega, by omega⟩, Nat.add_sub_cancel_left]
  obtain ⟨r, hr⟩ := idx_prefix n k (i + 1) (n.length - (i + 1))
  rw [show i + 1 + (n.length - (i + 1)) = n.length by omega, idx_succ, if_pos hk] at hr
  have hl := length_idx n k i (by omega)
  rw [hr, ← hl, List.append_assoc, List.getD, List.getElem?_append_right (by omega)]
  simp
theorem symAt_none' (n : List Nat) (k c : Nat) (h : ¬ (fst n k ≤ c ∧ c < fst n k + cnt n k)) : symAt n k c = none := by unfold symAt; rw [if_neg h]
end Go.Proofs.YtdehkaknbmbieaaGreat
namespace Go.Proofs.YtdehkaknbmbieaaGreat
set_option linter.unusedVariables false
set_option linter.unusedSimpArgs false
set_option linter.unusedSectionVars false
open Go.RowKit
set_option linter.unusedVariables false

/-- A number of n bits, and where it ends; else the error's number. -/
def takeP (s : ByteArray) (a n : Nat) : Except Nat (Nat × Nat) := if a + n ≤ 8 * s.size then .ok (rdVal s a n, a + n) else .error 3
/-- A symbol, by lengths. -/
def nextP (l : List Int) (s : ByteArray) (a : Nat) : Except Nat (Nat × Nat) :=
  if kindOf l = 3 ∨ kindOf l = 0 then .error 2 else
    match nxt (nats l) s a false with
    | (some x, a', _) => .ok (x, a')
    | (none, _, true) => .error 3
    | (none, _, false) => .error 2

theorem nxtF_some_fine (n : List Nat) (s : ByteArray) (f k a c : Nat) {x : Nat} (h : (nxtF n s f k a c).1 = some x) : (nxtF n s f k a c).2.2 = false := by
  induction f generalizing k a c with
  | zero => rfl
  | succ f ih =>
    by_cases h1 : a < 8 * s.size
    · cases hx : symAt n k (2 * c + rdVal s a 1) with
      | some y => rw [nxtF_some h1 hx]
      | none => rw [nxtF_none h1 hx] at h ⊢; exact ih _ _ _ h
    · rw [nxtF_end h1] at h; cases h
theorem nxt_some (n : List Nat) (s : ByteArray) (a : Nat) {x : Nat} (h : (nxt n s a false).1 = some x) : (nxt n s a false).2.2 = false := nxtF_some_fine n s 15 1 a 0 h

/-- Behind a step that reads: a value, or a panic. -/
def StepPost (w : World) (b : Nat) (s : ByteArray) (r : Except Nat (Value × Nat)) (e : Ending) (w' : World) : Prop :=
  match r with
  | .ok (v, a') => e = .returned v ∧ RdAt w' b 123 s a' false ∧ Upd [b] w w'
  | .error c => e = .panicked [{ v := .iface 35 (.int .i64 (c : Nat)), recovered := false }] ∧ Upd [b] w w'

set_option maxHeartbeats 1600000 in
theorem take_any (b n : Nat) (w : World) (s : ByteArray) (a : Nat) (hR : RdAt w b 123 s a false) (hs : s.size ≤ 1099511627776) (hn : n ≤ 32) :
    Calls Tryz.prog 77 #[.agg #[.pointer (some ⟨b, 0, none⟩)], .int .i64 (n : Nat)] w
      (StepPost w b s ((takeP s a n).map fun r => (.int .i64 (r.1 : Nat), r.2))) := by
  have hle := hR.2
  have HB := Lib.hid (fun w' (hU : Upd [] w w') => rbits_read b (n : Nat) w' s a false (hR.upd hU (by simp)) hs)
  have hblt := hR.1.lt
  by_cases hc : a + n ≤ 8 * s.size
  · have e2 : rdBad s a false (n : Nat) = false := by simp [rdBad]; omega
    have e3 : rdTo s a false (n : Nat) = a + n := by unfold rdTo; rw [e2]; simp
    have e4 : rdNum s a false (n : Nat) = rdVal s a n := by unfold rdNum; rw [e2]; simp
    rw [e2, e3, e4] at HB
    have ht : takeP s a n = .ok (rdVal s a n, a + n) := by unfold takeP; rw [if_pos hc]
    rw [ht]
    have hbl := rdVal_lt s a n
    have hp32 : 2 ^ n ≤ 2 ^ 32 := Nat.pow_le_pow_right (by omega) hn
    have hv : rdVal s a n < 4294967296 := by omega
    clear e2 e3 e4 ht hbl hp32
    generalize rdVal s a n = v at *
    go_enter Tryz.func77, Tryz.ntmps77
    go_wp2_with fail
    refine (HB.out _ ((Upd.refl [] w).alloc _)).mono ?_
    rintro e w1 ⟨rfl, hR1, hU1⟩
    have c1 : w1.cell? ⟨w.heap.size, 0, none⟩ = some (.pointer (some ⟨b, 0, none⟩)) := ((Blk.new w [.pointer (some ⟨b, 0, none⟩)] 82).upd hU1 (by simp; omega)).cell 0 rfl
    go_wp2_with fail
    refine (fine_any b w1 _ s _ false hR1).mono ?_
    rintro e w2 ⟨rfl, rfl⟩
    go_wp2
    go_returns
    exact ⟨rfl, hR1, (((Upd.refl [b] w).alloc _).then hU1)⟩
  · have e2 : rdBad s a false (n : Nat) = true := by simp [rdBad]; omega
    have e3 : rdTo s a false (n : Nat) = a := by unfold rdTo; rw [e2]; simp
    have e4 : rdNum s a false (n : Nat) = 0 := by unfold rdNum; rw [e2]; simp
    rw [e2, e3, e4] at HB
    have ht : takeP s a n = .error 3 := by unfold takeP; rw [if_neg hc]
    rw [ht]
    clear e2 e3 e4 ht
    go_enter Tryz.func77, Tryz.ntmps77
    go_wp2_with fail
    refine (HB.out _ ((Upd.refl [] w).alloc _)).mono ?_
    rintro e w1 ⟨rfl, hR1, hU1⟩
    have c1 : w1.cell? ⟨w.heap.size, 0, none⟩ = some (.pointer (some ⟨b, 0, none⟩)) := ((Blk.new w [.pointer (some ⟨b, 0, none⟩)] 82).upd hU1 (by simp; omega)).cell 0 rfl
    go_wp2_with fail
    refine (fine_any b w1 _ s _ true hR1).mono ?_
    rintro e w2 ⟨rfl, rfl⟩
    go_wp2
    exact ⟨rfl, rfl, (((Upd.refl [b] w).alloc _).then hU1)⟩

theorem must_yes (w : World) : Calls Tryz.prog 81 #[.bool true] w fun e w' => e = .returned (.tuple #[]) ∧ w = w' := by
  go_enter Tryz.func81, Tryz.ntmps81
  go_wp2
  go_returns
  exact ⟨rfl, rfl⟩
theorem must_no (w : World) : Calls Tryz.prog 81 #[.bool false] w fun e w' => e = .panicked [{ v := .iface 35 (.int .i64 2), recovered := false }] ∧ w = w' := by
  go_enter Tryz.func81, Tryz.ntmps81
  go_wp2
  exact ⟨rfl, rfl, rfl⟩

/-- A decoder for lengths: none, where they are none or over. -/
def DecFor (w : World) (dv : Value) (l : List Int) (b : Nat) : Prop :=
  (dv = .pointer none ∧ (kindOf l = 3 ∨ kindOf l = 0)) ∨ (kindOf l ≠ 3 ∧ kindOf l ≠ 0 ∧ ∃ d v, dv = .pointer (some ⟨d, 0, none⟩) ∧ DcAt w d v (nats l) ∧ d ≠ b ∧ v.ownBlock ≠ some b)
theorem DecFor.upd {w w' : World} {dv : Value} {l : List Int} {b : Nat} (h : DecFor w dv l b) (hU : Upd [b] w w') : DecFor w' dv l b := by
  rcases h with h | ⟨h1, h2, d, v, e, hD, h3, h4⟩
  · exact .inl h
  · exact .inr ⟨h1, h2, d, v, e, hD.upd hU (by simpa using h3) (fun k hk hm => by simp at hm; exact h4 (by rw [hk, hm])), h3, h4⟩

set_option maxHeartbeats 1600000 in
theorem bnext_any (b : Nat) (dv : Value) (l : List Int) (w : World) (s : ByteArray) (a : Nat) (hR : RdAt w b 123 s a false) (hs : s.size ≤ 1099511627776) (hD : DecFor w dv l b) :
    Calls Tryz.prog 111 #[.agg #[.pointer (some ⟨b, 0, none⟩)], dv] w
      (StepPost w b s ((nextP l s a).map fun r => (.int .i64 (r.1 : Nat), r.2))) := by
  have hblt := hR.1.lt
  have hU0 : Upd [] w (w.alloc (.cells #[.pointer (some ⟨b, 0, none⟩)] 82)) := (Upd.refl [] w).alloc _
  have hP := Blk.new w [.pointer (some ⟨b, 0, none⟩)] 82
  have hR0 := hR.upd hU0 (by simp)
  rcases hD with ⟨rfl, hk⟩ | ⟨hk3, hk0, d, v, rfl, hD, hdb, hvb⟩
  · have ht : nextP l s a = .error 2 := by unfold nextP; rw [if_pos hk]
    rw [ht]
    clear ht
    go_enter Tryz.func111, Tryz.ntmps111
    go_wp2_with fail
    refine (next_nil _ _).mono ?_
    rintro e w1 ⟨rfl, rfl⟩
    go_wp2_with fail
    refine (fine_any b _ _ s _ false hR0).mono ?_
    rintro e w2 ⟨rfl, rfl⟩
    go_wp2_with fail
    refine (must_no _).mono ?_
    rintro e w2 ⟨rfl, rfl⟩
    go_wp2
    exact ⟨rfl, rfl, hU0.mono (by simp)⟩
  · obtain ⟨hok, hps⟩ := kindOf_ok hk3
    have h300 : (nats l).length ≤ 300 := by rw [length_nats]; exact (okLens_spec hok).1
    have hNx := next_any d b v (nats l) _ s a false (hD.upd hU0 (by simp) (by simp)) hR0 hs hdb hvb hps h300
    have ht : nextP l s a = match nxt (nats l) s a false with
      | (some x, a', _) => .ok (x, a')
      | (none, _, true) => .error 3
      | (none, _, false) => .error 2 := by unfold nextP; rw [if_neg (by omega)]
    rw [ht]
    clear ht
    have hsb := fun x => @nxt_some (nats l) s a x
    generalize nxt (nats l) s a false = rr at *
    obtain ⟨o, a', bad'⟩ := rr
    cases o with
    | some x =>
      have e1 : nxtVal (some x, a', bad') = .tuple #[.int .i64 (x : Nat), .bool true] := rfl
      rw [e1] at hNx
      have hbf : bad' = false := hsb x rfl
      subst hbf
      have HN := Lib.hid hNx
      clear hNx e1 hsb
      go_enter Tryz.func111, Tryz.ntmps111
      go_wp2_with fail
      refine HN.out.mono ?_
      rintro e w1 ⟨rfl, hR1, hU1⟩
      have c1 := (hP.upd hU1 (by simp; omega)).cell 0 rfl
      go_wp2_with fail
      refine (fine_any b _ _ s _ false hR1).mono ?_
      rintro e w2 ⟨rfl, rfl⟩
      go_wp2_with fail
      refine (must_yes _).mono ?_
      rintro e w2 ⟨rfl, rfl⟩
      go_wp2
      go_returns
      exact ⟨rfl, hR1, (hU0.mono (by simp)).then hU1⟩
    | none =>
      have e1 : nxtVal (none, a', bad') = .tuple #[.int .i64 0, .bool false] := rfl
      rw [e1] at hNx
      have HN := Lib.hid hNx
      clear hNx e1
      cases bad' with
      | true =>
        go_enter Tryz.func111, Tryz.ntmps111
        go_wp2_with fail
        refine HN.out.mono ?_
        rintro e w1 ⟨rfl, hR1, hU1⟩
        have c1 := (hP.upd hU1 (by simp; omega)).cell 0 rfl
        go_wp2_with fail
        refine (fine_any b _ _ s _ true hR1).mono ?_
        rintro e w2 ⟨rfl, rfl⟩
        go_wp2
        exact ⟨rfl, rfl, (hU0.mono (by simp)).then hU1⟩
      | false =>
        go_enter Tryz.func111, Tryz.ntmps111
        go_wp2_with fail
        refine HN.out.mono ?_
        rintro e w1 ⟨rfl, hR1, hU1⟩
        have c1 := (hP.upd hU1 (by simp; omega)).cell 0 rfl
        go_wp2_with fail
        refine (fine_any b _ _ s _ false hR1).mono ?_
        rintro e w2 ⟨rfl, rfl⟩
        go_wp2_with fail
        refine (must_no _).mono ?_
        rintro e w2 ⟨rfl, rfl⟩
        go_wp2
        exact ⟨rfl, rfl, (hU0.mono (by simp)).then hU1⟩
theorem take_ok {b n : Nat} {w : World} {s : ByteArray} {a v a' : Nat} (hR : RdAt w b 123 s a false) (hs : s.size ≤ 1099511627776) (hn : n ≤ 32) (h : takeP s a n = .ok (v, a')) :
    Calls Tryz.prog 77 #[.agg #[.pointer (some ⟨b, 0, none⟩)], .int .i64 (n : Nat)] w fun e w' => e = .returned (.int .i64 (v : Nat)) ∧ RdAt w' b 123 s a' false ∧ Upd [b] w w' := by
  have hT := take_any b n w s a hR hs hn
  rw [h] at hT; exact hT
theorem take_err {b n : Nat} {w : World} {s : ByteArray} {a c : Nat} (hR : RdAt w b 123 s a false) (hs : s.size ≤ 1099511627776) (hn : n ≤ 32) (h : takeP s a n = .error c) :
    Calls Tryz.prog 77 #[.agg #[.pointer (some ⟨b, 0, none⟩)], .int .i64 (n : Nat)] w fun e w' => e = .panicked [{ v := .iface 35 (.int .i64 (c : Nat)), recovered := false }] ∧ Upd [b] w w' := by
  have hT := take_any b n w s a hR hs hn
  rw [h] at hT; exact hT
theorem bnext_ok {b : Nat} {dv : Value} {l : List Int} {w : World} {s : ByteArray} {a v a' : Nat} (hR : RdAt w b 123 s a false) (hs : s.size ≤ 1099511627776) (hD : DecFor w dv l b) (h : nextP l s a = .ok (v, a')) :
    Calls Tryz.prog 111 #[.agg #[.pointer (some ⟨b, 0, none⟩)], dv] w fun e w' => e = .returned (.int .i64 (v : Nat)) ∧ RdAt w' b 123 s a' false ∧ Upd [b] w w' := by
  have hT := bnext_any b dv l w s a hR hs hD
  rw [h] at hT; exact hT
theorem bnext_err {b : Nat} {dv : Value} {l : List Int} {w : World} {s : ByteArray} {a c : Nat} (hR : RdAt w b 123 s a false) (hs : s.size ≤ 1099511627776) (hD : DecFor w dv l b) (h : nextP l s a = .error c) :
    Calls Tryz.prog 111 #[.agg #[.pointer (some ⟨b, 0, none⟩)], dv] w fun e w' => e = .panicked [{ v := .iface 35 (.int .i64 (c : Nat)), recovered := false }] ∧ Upd [b] w w' := by
  have hT := bnext_any b dv l w s a hR hs hD
  rw [h] at hT; exact hT
end Go.Proofs.YtdehkaknbmbieaaGreat
